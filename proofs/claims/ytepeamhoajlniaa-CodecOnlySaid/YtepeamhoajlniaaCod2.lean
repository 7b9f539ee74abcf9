/- The plain law of the codec, part 2: lists, the checksum, frames. -/
import Derived.Test.YtepeamhoajlniaaCod
namespace Go.Proofs.Ytepeamhoajlniaa
namespace Cod

/-! ### so many, one after the other -/
theorem many_put {α : Type} (p : List Nat → Got α) (e : α → List Nat) (l : List α) (h : ∀ x ∈ l, ∀ rest, p (e x ++ rest) = ⟨x, (e x).length, 0⟩) (rest : List Nat) :
    many p l.length (l.flatMap e ++ rest) = ⟨l, (l.flatMap e).length, 0⟩ := by
  induction l with
  | nil => rfl
  | cons x xs ih =>
    have h1 := h x (by simp) (xs.flatMap e ++ rest)
    have h2 := ih fun y hy => h y (by simp [hy])
    simp only [List.flatMap_cons, List.append_assoc, List.length_cons, many]
    rw [h1]
    simp only [if_true, List.drop_left', h2, List.length_append]
theorem many_cut {α : Type} (p : List Nat → Got α) (e : α → List Nat) (l : List α) (h : ∀ x ∈ l, ∀ rest, p (e x ++ rest) = ⟨x, (e x).length, 0⟩)
    (hc : ∀ x ∈ l, ∀ c, c < (e x).length → (p ((e x).take c)).err = 4) (c : Nat) (h0 : c < (l.flatMap e).length) : (many p l.length ((l.flatMap e).take c)).err = 4 := by
  induction l generalizing c with
  | nil => simp at h0
  | cons x xs ih =>
    simp only [List.flatMap_cons, List.length_cons, many] at h0 ⊢
    rw [List.length_append] at h0
    by_cases hx : c < (e x).length
    · have h1 := hc x (by simp) c hx
      rw [List.take_append_of_le_length (by omega), h1]; simp
    · have h1 : (e x ++ xs.flatMap e).take c = e x ++ (xs.flatMap e).take (c - (e x).length) := by
        rw [List.take_append, List.take_of_length_le (by omega)]
      have h2 := ih (fun y hy => h y (by simp [hy])) (fun y hy => hc y (by simp [hy])) (c - (e x).length) (by omega)
      rw [h1, h x (by simp)]
      simp only [if_true, List.drop_left']
      rw [if_neg (by rw [h2]; decide)]; exact h2
theorem tk_put {n : Int} (h1 : -9223372036854775808 ≤ n) (h2 : n ≤ 9223372036854775807) (rest : List Nat) : tk (put n ++ rest) = ⟨n, (put n).length, 0⟩ := by
  unfold put; rw [tk_enc (zig_lt h1 h2), unzig_zig]
theorem put_cut {n : Int} (h1 : -9223372036854775808 ≤ n) (h2 : n ≤ 9223372036854775807) (c : Nat) (h : c < (put n).length) : (tk ((put n).take c)).err = 4 := tk_cut (zig_lt h1 h2) h
theorem lst_put {α : Type} (p : List Nat → Got α) (e : α → List Nat) (l : List α) (hl : l.length ≤ 9223372036854775807) (h : ∀ x ∈ l, ∀ rest, p (e x ++ rest) = ⟨x, (e x).length, 0⟩) (rest : List Nat) :
    lst p (cat e l ++ rest) = ⟨l, (cat e l).length, 0⟩ := by
  unfold lst cat
  rw [List.append_assoc, tk_put (by omega) (by omega)]
  simp only [if_true, List.drop_left', Int.toNat_natCast]
  rw [if_neg (by omega), many_put p e l h]
  simp
theorem lst_cut {α : Type} (p : List Nat → Got α) (e : α → List Nat) (l : List α) (hl : l.length ≤ 9223372036854775807) (h : ∀ x ∈ l, ∀ rest, p (e x ++ rest) = ⟨x, (e x).length, 0⟩)
    (hc : ∀ x ∈ l, ∀ c, c < (e x).length → (p ((e x).take c)).err = 4) (c : Nat) (h0 : c < (cat e l).length) : (lst p ((cat e l).take c)).err = 4 := by
  unfold lst cat at *
  rw [List.length_append] at h0
  by_cases hx : c < (put l.length).length
  · have h1 := put_cut (n := l.length) (by omega) (by omega) c hx
    rw [List.take_append_of_le_length (by omega), h1]; simp
  · have h1 : (put l.length ++ l.flatMap e).take c = put l.length ++ (l.flatMap e).take (c - (put l.length).length) := by
      rw [List.take_append, List.take_of_length_le (by omega)]
    have h2 := many_cut p e l h hc (c - (put l.length).length) (by omega)
    rw [h1, tk_put (by omega) (by omega)]
    simp only [if_true, List.drop_left', Int.toNat_natCast]
    rw [if_neg (by omega), if_neg (by rw [h2]; decide)]; exact h2
def I64 (n : Int) : Prop := -9223372036854775808 ≤ n ∧ n ≤ 9223372036854775807
theorem tkL_put (l : List Int) (hl : l.length ≤ 9223372036854775807) (h : ∀ x ∈ l, I64 x) (rest : List Nat) : tkL (putL l ++ rest) = ⟨l, (putL l).length, 0⟩ :=
  lst_put tk put l hl (fun x hx rest => tk_put (h x hx).1 (h x hx).2 rest) rest
theorem tkL_cut (l : List Int) (hl : l.length ≤ 9223372036854775807) (h : ∀ x ∈ l, I64 x) (c : Nat) (h0 : c < (putL l).length) : (tkL ((putL l).take c)).err = 4 :=
  lst_cut tk put l hl (fun x hx rest => tk_put (h x hx).1 (h x hx).2 rest) (fun x hx c hc => put_cut (h x hx).1 (h x hx).2 c hc) c h0
theorem tkW_put (l : List (List Int)) (hl : l.length ≤ 9223372036854775807) (h : ∀ x ∈ l, x.length ≤ 9223372036854775807 ∧ ∀ y ∈ x, I64 y) (rest : List Nat) : tkW (putW l ++ rest) = ⟨l, (putW l).length, 0⟩ :=
  lst_put tkL putL l hl (fun x hx rest => tkL_put x (h x hx).1 (h x hx).2 rest) rest
theorem tkW_cut (l : List (List Int)) (hl : l.length ≤ 9223372036854775807) (h : ∀ x ∈ l, x.length ≤ 9223372036854775807 ∧ ∀ y ∈ x, I64 y) (c : Nat) (h0 : c < (putW l).length) : (tkW ((putW l).take c)).err = 4 :=
  lst_cut tkL putL l hl (fun x hx rest => tkL_put x (h x hx).1 (h x hx).2 rest) (fun x hx c hc => tkL_cut x (h x hx).1 (h x hx).2 c hc) c h0

/-! ### what is taken is what putting returns -/
def Only {α : Type} (p : List Nat → Got α) (e : α → List Nat) : Prop :=
  ∀ b : List Nat, (∀ x ∈ b, x < 256) → (p b).err = 0 → e (p b).val = b.take (p b).size ∧ 1 ≤ (p b).size ∧ (p b).size ≤ b.length
theorem many_only {α : Type} (p : List Nat → Got α) (e : α → List Nat) (hp : Only p e) (n : Nat) (b : List Nat) (hb : ∀ x ∈ b, x < 256) (h : (many p n b).err = 0) :
    (many p n b).val.flatMap e = b.take (many p n b).size ∧ n ≤ (many p n b).size ∧ (many p n b).size ≤ b.length ∧ (many p n b).val.length = n := by
  induction n generalizing b with
  | zero => simp [many]
  | succ n ih =>
    unfold many at h ⊢
    by_cases h1 : (p b).err = 0
    · rw [if_pos h1] at h ⊢
      simp only at h ⊢
      by_cases h2 : (many p n (b.drop (p b).size)).err = 0
      · rw [if_pos h2]
        obtain ⟨a1, a2, a3⟩ := hp b hb h1
        obtain ⟨c1, c2, c3, c4⟩ := ih (b.drop (p b).size) (fun x hx => hb x (List.mem_of_mem_drop hx)) h2
        rw [List.length_drop] at c3
        refine ⟨?_, by simp only; omega, by simp only; omega, by simp [c4]⟩
        simp only [List.flatMap_cons, a1, c1]
        rw [List.take_add]
      · rw [if_neg h2] at h; exact absurd h h2
    · rw [if_neg h1] at h; exact absurd h h1
theorem lst_only {α : Type} (p : List Nat → Got α) (e : α → List Nat) (hp : Only p e) : Only (lst p) (cat e) := by
  intro b hb h
  unfold lst at h ⊢
  by_cases h1 : (tk b).err = 0
  · rw [if_pos h1] at h ⊢
    by_cases h2 : (tk b).val < 0
    · rw [if_pos h2] at h; simp at h
    · rw [if_neg h2] at h ⊢
      simp only at h ⊢
      by_cases h3 : (many p (tk b).val.toNat (b.drop (tk b).size)).err = 0
      · rw [if_pos h3]
        obtain ⟨a1, a2, a3⟩ := tk_only b hb h1
        obtain ⟨c1, c2, c3, c4⟩ := many_only p e hp _ (b.drop (tk b).size) (fun x hx => hb x (List.mem_of_mem_drop hx)) h3
        rw [List.length_drop] at c3
        refine ⟨?_, by simp only; omega, by simp only; omega⟩
        simp only [cat, c1, c4]
        rw [Int.toNat_of_nonneg (by omega), a1, List.take_add]
      · rw [if_neg h3] at h; exact absurd h h3
  · rw [if_neg h1] at h; exact absurd h h1
theorem tkL_only : Only tkL putL := lst_only tk put fun b hb h => tk_only b hb h
theorem tkW_only : Only tkW putW := lst_only tkL putL tkL_only
theorem lst_bad {α : Type} (p : List Nat → Got α) (b : List Nat) (h : (lst p b).err ≠ 0) : (lst p b).val = [] ∧ (lst p b).size = 0 := by
  unfold lst at h ⊢
  by_cases h1 : (tk b).err = 0
  · rw [if_pos h1] at h ⊢
    by_cases h2 : (tk b).val < 0
    · rw [if_pos h2]; exact ⟨rfl, rfl⟩
    · rw [if_neg h2] at h ⊢
      simp only at h ⊢
      by_cases h3 : (many p (tk b).val.toNat (b.drop (tk b).size)).err = 0
      · rw [if_pos h3] at h; simp at h
      · rw [if_neg h3]; exact ⟨rfl, rfl⟩
  · rw [if_neg h1]; exact ⟨rfl, rfl⟩

/-! ### on the way -/
def on {α : Type} (p : List Nat → Got α) (R : Nat) (acc : List α) (k : Nat) (b : List Nat) : Got (List α) :=
  if (many p R (b.drop k)).err = 0 then ⟨acc ++ (many p R (b.drop k)).val, k + (many p R (b.drop k)).size, 0⟩ else ⟨[], 0, (many p R (b.drop k)).err⟩
theorem on_zero {α : Type} (p : List Nat → Got α) (acc : List α) (k : Nat) (b : List Nat) : on p 0 acc k b = ⟨acc, k, 0⟩ := by simp [on, many]
theorem many_succ {α : Type} (p : List Nat → Got α) (n : Nat) (b : List Nat) : many p (n + 1) b = if (p b).err = 0 then
      (if (many p n (b.drop (p b).size)).err = 0 then ⟨(p b).val :: (many p n (b.drop (p b).size)).val, (p b).size + (many p n (b.drop (p b).size)).size, 0⟩ else ⟨[], 0, (many p n (b.drop (p b).size)).err⟩)
      else ⟨[], 0, (p b).err⟩ := rfl
theorem on_ok {α : Type} (p : List Nat → Got α) (R : Nat) (acc : List α) (k : Nat) (b : List Nat) (h : (p (b.drop k)).err = 0) :
    on p (R + 1) acc k b = on p R (acc ++ [(p (b.drop k)).val]) (k + (p (b.drop k)).size) b := by
  unfold on
  rw [many_succ, if_pos h, List.drop_drop]
  by_cases h2 : (many p R (b.drop (k + (p (b.drop k)).size))).err = 0
  · simp only [if_pos h2, if_true, List.append_assoc, List.singleton_append, Nat.add_assoc]
  · simp only [if_neg h2]
theorem on_bad {α : Type} (p : List Nat → Got α) (R : Nat) (acc : List α) (k : Nat) (b : List Nat) (h : (p (b.drop k)).err ≠ 0) :
    on p (R + 1) acc k b = ⟨[], 0, (p (b.drop k)).err⟩ := by
  unfold on many
  simp only [if_neg h]
theorem lst_on {α : Type} (p : List Nat → Got α) (b : List Nat) (h1 : (tk b).err = 0) (h2 : 0 ≤ (tk b).val) : lst p b = on p (tk b).val.toNat [] (tk b).size b := by
  unfold lst on
  rw [if_pos h1, if_neg (by omega)]; simp only [List.nil_append]

/-! ### the checksum -/
def bit (r : Nat) : Nat := if r % 2 = 1 then (r / 2) ^^^ 3988292384 else r / 2
def bits : Nat → Nat → Nat
  | 0, r => r
  | n + 1, r => bits n (bit r)
def crc (r c : Nat) : Nat := bits 8 (r ^^^ c)
def crcs (b : List Nat) : Nat := b.foldl crc 4294967295
def sum (b : List Nat) : Nat := crcs b ^^^ 4294967295
theorem xor_rc {a b c : Nat} (h : a ^^^ c = b ^^^ c) : a = b := by
  have := congrArg (· ^^^ c) h
  simpa [Nat.xor_assoc] using this
theorem xor_lc {a b c : Nat} (h : c ^^^ a = c ^^^ b) : a = b := by
  rw [Nat.xor_comm c a, Nat.xor_comm c b] at h; exact xor_rc h
theorem bit_lt {r : Nat} (h : r < 4294967296) : bit r < 4294967296 := by
  unfold bit; split
  · exact Nat.xor_lt_two_pow (n := 32) (by omega) (by omega)
  · omega
theorem hi31 {a : Nat} (h : a < 2147483648) : (a ^^^ 3988292384).testBit 31 = true := by
  rw [Nat.testBit_xor, Nat.testBit_lt_two_pow (i := 31) (by omega)]; decide
theorem bit_inj {r s : Nat} (hr : r < 4294967296) (hs : s < 4294967296) (h : bit r = bit s) : r = s := by
  unfold bit at h
  by_cases h1 : r % 2 = 1 <;> by_cases h2 : s % 2 = 1
  · rw [if_pos h1, if_pos h2] at h
    have := xor_rc h
    omega
  · rw [if_pos h1, if_neg h2] at h
    have a := hi31 (a := r / 2) (by omega)
    rw [h, Nat.testBit_lt_two_pow (i := 31) (by omega)] at a
    exact absurd a (by decide)
  · rw [if_neg h1, if_pos h2] at h
    have a := hi31 (a := s / 2) (by omega)
    rw [← h, Nat.testBit_lt_two_pow (i := 31) (by omega)] at a
    exact absurd a (by decide)
  · rw [if_neg h1, if_neg h2] at h; omega
theorem bits_lt (n : Nat) {r : Nat} (h : r < 4294967296) : bits n r < 4294967296 := by
  induction n generalizing r with
  | zero => exact h
  | succ n ih => exact ih (bit_lt h)
theorem bits_inj (n : Nat) {r s : Nat} (hr : r < 4294967296) (hs : s < 4294967296) (h : bits n r = bits n s) : r = s := by
  induction n generalizing r s with
  | zero => exact h
  | succ n ih => exact bit_inj hr hs (ih (bit_lt hr) (bit_lt hs) h)
theorem crc_lt {r c : Nat} (hr : r < 4294967296) (hc : c < 256) : crc r c < 4294967296 := bits_lt 8 (Nat.xor_lt_two_pow (n := 32) (by omega) (by omega))
theorem crc_inj1 {r s c : Nat} (hr : r < 4294967296) (hs : s < 4294967296) (hc : c < 256) (h : crc r c = crc s c) : r = s :=
  xor_rc (bits_inj 8 (Nat.xor_lt_two_pow (n := 32) (by omega) (by omega)) (Nat.xor_lt_two_pow (n := 32) (by omega) (by omega)) h)
theorem crc_inj2 {r c d : Nat} (hr : r < 4294967296) (hc : c < 256) (hd : d < 256) (h : crc r c = crc r d) : c = d :=
  xor_lc (bits_inj 8 (Nat.xor_lt_two_pow (n := 32) (by omega) (by omega)) (Nat.xor_lt_two_pow (n := 32) (by omega) (by omega)) h)
theorem fold_lt (b : List Nat) (hb : ∀ x ∈ b, x < 256) {r : Nat} (hr : r < 4294967296) : b.foldl crc r < 4294967296 := by
  induction b generalizing r with
  | nil => exact hr
  | cons x xs ih => exact ih (fun y hy => hb y (by simp [hy])) (crc_lt hr (hb x (by simp)))
theorem fold_inj (b : List Nat) (hb : ∀ x ∈ b, x < 256) {r s : Nat} (hr : r < 4294967296) (hs : s < 4294967296) (h : b.foldl crc r = b.foldl crc s) : r = s := by
  induction b generalizing r s with
  | nil => exact h
  | cons x xs ih =>
    have hx := hb x (by simp)
    exact crc_inj1 hr hs hx (ih (fun y hy => hb y (by simp [hy])) (crc_lt hr hx) (crc_lt hs hx) h)
theorem sum_lt (b : List Nat) (hb : ∀ x ∈ b, x < 256) : sum b < 4294967296 :=
  Nat.xor_lt_two_pow (n := 32) (fold_lt b hb (by omega)) (by omega)
theorem sum_set (b : List Nat) (hb : ∀ x ∈ b, x < 256) (i y : Nat) (hi : i < b.length) (hy : y < 256) (hne : y ≠ b.getD i 0) : sum (b.set i y) ≠ sum b := by
  intro h
  have h1 : crcs (b.set i y) = crcs b := xor_rc h
  have h2 : b = b.take i ++ b.getD i 0 :: b.drop (i + 1) := by
    rw [List.getD_eq_getElem?_getD, List.getElem?_eq_getElem hi, Option.getD_some, List.getElem_cons_drop, List.take_append_drop]
  have h3 : b.set i y = b.take i ++ y :: b.drop (i + 1) := by
    rw [List.set_eq_take_append_cons_drop, if_pos hi]
  have hx : b.getD i 0 < 256 := by
    rw [List.getD_eq_getElem?_getD, List.getElem?_eq_getElem hi, Option.getD_some]; exact hb _ (List.getElem_mem hi)
  rw [h3] at h1
  obtain ⟨x, hxx⟩ : ∃ x, x = b.getD i 0 := ⟨_, rfl⟩
  rw [← hxx] at h2 hx hne
  have h4 : crcs b = crcs (b.take i ++ x :: b.drop (i + 1)) := by rw [← h2]
  rw [h4] at h1
  unfold crcs at h1
  rw [List.foldl_append, List.foldl_append, List.foldl_cons, List.foldl_cons] at h1
  have hs : (b.take i).foldl crc 4294967295 < 4294967296 := fold_lt _ (fun z hz => hb z (List.mem_of_mem_take hz)) (by omega)
  exact hne (crc_inj2 hs hy hx (fold_inj _ (fun z hz => hb z (List.mem_of_mem_drop hz)) (crc_lt hs hy) (crc_lt hs hx) h1))
end Cod
end Go.Proofs.Ytepeamhoajlniaa
