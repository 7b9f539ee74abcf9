/- The plain law of the codec, part 3: frames. -/
import Derived.Test.YtepeamhoajlniaaCod2
namespace Go.Proofs.Ytepeamhoajlniaa
namespace Cod

def four (n : Nat) : List Nat := [n / 16777216 % 256, n / 65536 % 256, n / 256 % 256, n % 256]
theorem four_len (n : Nat) : (four n).length = 4 := rfl
theorem four_inj {n m : Nat} (hn : n < 4294967296) (hm : m < 4294967296) (h : four n = four m) : n = m := by
  unfold four at h
  injection h with h1 h
  injection h with h2 h
  injection h with h3 h
  injection h with h4 _
  omega
def clamp (k : Int) : Nat := (max 0 (min 255 k)).toNat
def head (kind : Int) (b : List Nat) : List Nat := clamp kind :: (put b.length ++ b)
def frm (kind : Int) (b : List Nat) : List Nat := head kind b ++ four (sum (head kind b))
structure Opened where
  kind : Int
  cont : List Nat
  size : Nat
  err : Int
def opn (b : List Nat) : Opened :=
  if b.length = 0 then ⟨0, [], 0, 4⟩
  else if (tk (b.drop 1)).err ≠ 0 then ⟨0, [], 0, (tk (b.drop 1)).err⟩
  else if (tk (b.drop 1)).val < 0 then ⟨0, [], 0, 5⟩
  else if (b.length : Int) - 1 - (tk (b.drop 1)).size - 4 < (tk (b.drop 1)).val then ⟨0, [], 0, 4⟩
  else if four (sum (b.take (1 + (tk (b.drop 1)).size + (tk (b.drop 1)).val.toNat))) = (b.drop (1 + (tk (b.drop 1)).size + (tk (b.drop 1)).val.toNat)).take 4 then
    ⟨b.getD 0 0, (b.drop (1 + (tk (b.drop 1)).size)).take (tk (b.drop 1)).val.toNat, 1 + (tk (b.drop 1)).size + (tk (b.drop 1)).val.toNat + 4, 0⟩
  else ⟨0, [], 0, 6⟩
theorem put_lt (n : Int) : ∀ x ∈ put n, x < 256 := enc_lt _
theorem clamp_lt (k : Int) : clamp k < 256 := by unfold clamp; omega
theorem head_lt (kind : Int) (b : List Nat) (hb : ∀ x ∈ b, x < 256) : ∀ x ∈ head kind b, x < 256 := by
  intro x hx
  rcases List.mem_cons.1 hx with rfl | hx
  · exact clamp_lt kind
  · rcases List.mem_append.1 hx with hx | hx
    · exact put_lt _ x hx
    · exact hb x hx
theorem four_lt (n : Nat) : ∀ x ∈ four n, x < 256 := by
  intro x hx; simp [four] at hx; omega
theorem head_len (kind : Int) (b : List Nat) : (head kind b).length = 1 + (put b.length).length + b.length := by
  simp [head]; omega
theorem seal_len (kind : Int) (b : List Nat) : (frm kind b).length = 1 + (put b.length).length + b.length + 4 := by
  rw [frm, List.length_append, head_len, four_len]
theorem seal_lt (kind : Int) (b : List Nat) (hb : ∀ x ∈ b, x < 256) : ∀ x ∈ frm kind b, x < 256 := by
  intro x hx
  rcases List.mem_append.1 hx with hx | hx
  · exact head_lt kind b hb x hx
  · exact four_lt _ x hx
theorem put_len1 (n : Int) : 1 ≤ (put n).length := enc_ne _
theorem seal_drop1 (kind : Int) (b rest : List Nat) : (frm kind b ++ rest).drop 1 = put b.length ++ (b ++ (four (sum (head kind b)) ++ rest)) := by
  simp [frm, head, List.append_assoc]
/-- a frame is opened again, whatever follows -/
theorem opn_seal (kind : Int) (b rest : List Nat) (hl : b.length ≤ 9223372036854775807) : opn (frm kind b ++ rest) = ⟨clamp kind, b, (frm kind b).length, 0⟩ := by
  have h1 := tk_put (n := b.length) (by omega) (by omega) (b ++ (four (sum (head kind b)) ++ rest))
  rw [← seal_drop1] at h1
  have hlen := seal_len kind b
  have h2 : (frm kind b ++ rest).take (1 + (put b.length).length + b.length) = head kind b := by
    rw [frm, List.append_assoc, ← head_len kind b, List.take_left']
    rfl
  have h3 : ((frm kind b ++ rest).drop (1 + (put b.length).length + b.length)).take 4 = four (sum (head kind b)) := by
    rw [frm, List.append_assoc, ← head_len kind b, List.drop_left' rfl, List.take_left' (four_len _)]
  have h4 : ((frm kind b ++ rest).drop (1 + (put b.length).length)).take b.length = b := by
    rw [← List.drop_drop, seal_drop1, List.drop_left' rfl, List.take_left' rfl]
  unfold opn
  rw [h1]
  simp only [Int.toNat_natCast, h2, h3, h4, ne_eq, not_true_eq_false, if_false, if_true]
  rw [if_neg (by rw [List.length_append]; omega), if_neg (by omega), if_neg (by rw [List.length_append]; omega), hlen]
  simp [frm, head]
/-- one that is cut off is not accepted -/
theorem opn_cut (kind : Int) (b : List Nat) (hl : b.length ≤ 9223372036854775807) (c : Nat) (hc : c < (frm kind b).length) : (opn ((frm kind b).take c)).err = 4 := by
  have hlen := seal_len kind b
  have hcl : ((frm kind b).take c).length = c := by rw [List.length_take]; omega
  unfold opn
  rw [hcl]
  by_cases h0 : c = 0
  · rw [if_pos h0]
  · rw [if_neg h0]
    have hd := seal_drop1 kind b []
    rw [List.append_nil] at hd
    have h1 : ((frm kind b).take c).drop 1 = (put b.length ++ (b ++ (four (sum (head kind b)) ++ []))).take (c - 1) := by
      rw [List.drop_take, hd]
    rw [h1]
    by_cases h2 : c - 1 < (put b.length).length
    · rw [List.take_append_of_le_length (by omega)]
      have h3 := put_cut (n := b.length) (by omega) (by omega) (c - 1) h2
      rw [if_pos (by rw [h3]; decide)]; exact h3
    · rw [List.take_append, List.take_of_length_le (by omega), tk_put (by omega) (by omega)]
      simp only [ne_eq, not_true_eq_false, if_false]
      rw [if_neg (by omega), if_pos (by omega)]
theorem enc_mono {u v : Nat} (h : u ≤ v) : (enc u).length ≤ (enc v).length := by
  induction v using Nat.strongRecOn generalizing u with
  | _ v ih =>
    by_cases hv : v < 128
    · rw [enc_lo hv, enc_lo (by omega)]; simp
    · rw [enc_hi hv]
      by_cases hu : u < 128
      · rw [enc_lo hu]; simp
      · rw [enc_hi hu]
        have := ih (v / 128) (by omega) (u := u / 128) (by omega)
        simp; omega
theorem put_mono {n m : Nat} (h : n ≤ m) : (put n).length ≤ (put m).length := by
  unfold put
  refine enc_mono ?_
  unfold zig
  rw [if_neg (by omega), if_neg (by omega)]; omega
/-- after the change of a byte the content of the same length is not accepted -/
theorem opn_set (kind : Int) (b : List Nat) (hb : ∀ x ∈ b, x < 256) (i y : Nat) (hi : i < (frm kind b).length) (hy : y < 256) (hne : y ≠ (frm kind b).getD i 0)
    (h : (opn ((frm kind b).set i y)).err = 0) : (opn ((frm kind b).set i y)).size ≠ (frm kind b).length := by
  have hlen := seal_len kind b
  have hslt := seal_lt kind b hb
  have hs1 : ((frm kind b).drop 1).take (put b.length).length = put b.length := by
    have := seal_drop1 kind b []
    rw [List.append_nil] at this
    rw [this, List.take_left' rfl]
  have hs2 : (frm kind b).take (1 + (put b.length).length + b.length) = head kind b := by
    rw [frm, ← head_len kind b, List.take_left' rfl]
  have hs3 : (frm kind b).drop (1 + (put b.length).length + b.length) = four (sum (head kind b)) := by
    rw [frm, ← head_len kind b, List.drop_left' rfl]
  obtain ⟨s, hs⟩ : ∃ s, s = frm kind b := ⟨_, rfl⟩
  rw [← hs] at h hi hne hlen hslt hs1 hs2 hs3 ⊢
  have htl : (s.set i y).length = s.length := List.length_set
  have htlt : ∀ x ∈ s.set i y, x < 256 := by
    intro x hx
    rcases List.mem_or_eq_of_mem_set hx with hx | rfl
    · exact hslt x hx
    · exact hy
  intro hsz
  obtain ⟨t, ht⟩ : ∃ t, t = s.set i y := ⟨_, rfl⟩
  rw [← ht] at h hsz htl htlt
  unfold opn at h hsz
  by_cases a0 : t.length = 0
  · rw [if_pos a0] at h; simp at h
  rw [if_neg a0] at h hsz
  by_cases a1 : (tk (t.drop 1)).err ≠ 0
  · rw [if_pos a1] at h; exact a1 h
  rw [if_neg a1] at h hsz
  by_cases a2 : (tk (t.drop 1)).val < 0
  · rw [if_pos a2] at h; simp at h
  rw [if_neg a2] at h hsz
  by_cases a3 : (t.length : Int) - 1 - (tk (t.drop 1)).size - 4 < (tk (t.drop 1)).val
  · rw [if_pos a3] at h; simp at h
  rw [if_neg a3] at h hsz
  by_cases a4 : four (sum (t.take (1 + (tk (t.drop 1)).size + (tk (t.drop 1)).val.toNat))) = (t.drop (1 + (tk (t.drop 1)).size + (tk (t.drop 1)).val.toNat)).take 4
  rotate_left
  · rw [if_neg a4] at h; simp at h
  rw [if_pos a4] at hsz
  simp only at hsz
  have a1' : (tk (t.drop 1)).err = 0 := by omega
  obtain ⟨b1, b2, b3⟩ := tk_only (t.drop 1) (fun x hx => htlt x (List.mem_of_mem_drop hx)) a1'
  obtain ⟨m, hm⟩ : ∃ m : Nat, (tk (t.drop 1)).val = m := ⟨(tk (t.drop 1)).val.toNat, by omega⟩
  obtain ⟨u, hu⟩ : ∃ u, u = (tk (t.drop 1)).size := ⟨_, rfl⟩
  rw [hm] at a4 b1 a3
  rw [hm] at hsz
  rw [← hu] at a4 b1 b2 b3 a3 hsz
  rw [Int.toNat_natCast] at a4 hsz
  have b4 : (put m).length = u := by rw [b1, List.length_take]; omega
  have hmn : m = b.length := by
    rcases Nat.lt_trichotomy m b.length with h | h | h
    · have := put_mono (Nat.le_of_lt h); omega
    · exact h
    · have := put_mono (Nat.le_of_lt h); omega
  subst hmn
  subst b4
  have hout : ¬ (1 ≤ i ∧ i < 1 + (put b.length).length) := by
    rintro ⟨q1, q2⟩
    have e1 : ((t.drop 1).take (put b.length).length).getD (i - 1) 0 = (((s.drop 1)).take (put b.length).length).getD (i - 1) 0 := by rw [hs1, ← b1]
    rw [List.getD_eq_getElem?_getD, List.getD_eq_getElem?_getD, List.getElem?_take_of_lt (by omega), List.getElem?_take_of_lt (by omega), List.getElem?_drop, List.getElem?_drop,
      show 1 + (i - 1) = i by omega, ht, List.getElem?_set_self hi] at e1
    rw [List.getD_eq_getElem?_getD] at hne
    exact hne e1
  by_cases hie : i < 1 + (put b.length).length + b.length
  · have c1 : t.take (1 + (put b.length).length + b.length) = (head kind b).set i y := by rw [ht, List.take_set, hs2]
    have c2 : t.drop (1 + (put b.length).length + b.length) = four (sum (head kind b)) := by
      rw [ht, List.drop_set, if_pos hie, hs3]
    rw [c1, c2, List.take_of_length_le (by rw [four_len]; omega)] at a4
    have hl2 := head_lt kind b hb
    have hil : i < (head kind b).length := by rw [head_len]; exact hie
    have e2 := four_inj (sum_lt _ (fun x hx => by
      rcases List.mem_or_eq_of_mem_set hx with hx | rfl
      · exact hl2 x hx
      · exact hy)) (sum_lt _ hl2) a4
    refine sum_set (head kind b) hl2 i y hil hy ?_ e2
    rw [← hs2, List.getD_eq_getElem?_getD, List.getElem?_take_of_lt hie, ← List.getD_eq_getElem?_getD]
    exact hne
  · have c1 : t.take (1 + (put b.length).length + b.length) = head kind b := by rw [ht, List.take_set, hs2, List.set_eq_of_length_le (by rw [head_len]; omega)]
    have c2 : t.drop (1 + (put b.length).length + b.length) = (four (sum (head kind b))).set (i - (1 + (put b.length).length + b.length)) y := by
      rw [ht, List.drop_set, if_neg hie, hs3]
    rw [c1, c2, List.take_of_length_le (by rw [List.length_set, four_len]; omega)] at a4
    have e3 : (four (sum (head kind b))).getD (i - (1 + (put b.length).length + b.length)) 0 = y := by
      rw [a4, List.getD_eq_getElem?_getD, List.getElem?_set_self (by rw [four_len]; omega)]; rfl
    rw [← hs3, List.getD_eq_getElem?_getD, List.getElem?_drop, show 1 + (put b.length).length + b.length + (i - (1 + (put b.length).length + b.length)) = i by omega,
      ← List.getD_eq_getElem?_getD] at e3
    exact hne e3.symm
/-- what is taken has exactly the bytes that putting it returns -/
theorem opn_only (b : List Nat) (hb : ∀ x ∈ b, x < 256) (h : (opn b).err = 0) :
    frm (opn b).kind (opn b).cont = b.take (opn b).size ∧ 1 ≤ (opn b).size ∧ (opn b).size ≤ b.length := by
  unfold opn at h ⊢
  by_cases a0 : b.length = 0
  · rw [if_pos a0] at h; simp at h
  rw [if_neg a0] at h ⊢
  by_cases a1 : (tk (b.drop 1)).err ≠ 0
  · rw [if_pos a1] at h; exact absurd h a1
  rw [if_neg a1] at h ⊢
  by_cases a2 : (tk (b.drop 1)).val < 0
  · rw [if_pos a2] at h; simp at h
  rw [if_neg a2] at h ⊢
  by_cases a3 : (b.length : Int) - 1 - (tk (b.drop 1)).size - 4 < (tk (b.drop 1)).val
  · rw [if_pos a3] at h; simp at h
  rw [if_neg a3] at h ⊢
  by_cases a4 : four (sum (b.take (1 + (tk (b.drop 1)).size + (tk (b.drop 1)).val.toNat))) = (b.drop (1 + (tk (b.drop 1)).size + (tk (b.drop 1)).val.toNat)).take 4
  rotate_left
  · rw [if_neg a4] at h; simp at h
  rw [if_pos a4]
  have a1' : (tk (b.drop 1)).err = 0 := by omega
  obtain ⟨b1, b2, b3⟩ := tk_only (b.drop 1) (fun x hx => hb x (List.mem_of_mem_drop hx)) a1'
  obtain ⟨m, hm⟩ : ∃ m : Nat, (tk (b.drop 1)).val = m := ⟨(tk (b.drop 1)).val.toNat, by omega⟩
  obtain ⟨u, hu⟩ : ∃ u, u = (tk (b.drop 1)).size := ⟨_, rfl⟩
  rw [hm] at a3 b1
  rw [← hu] at a3 b1 b2 b3
  rw [hm, ← hu, Int.toNat_natCast] at a4
  simp only [hm, ← hu, Int.toNat_natCast]
  rw [List.length_drop] at b3
  obtain ⟨x, xs, rfl⟩ : ∃ x xs, b = x :: xs := by cases b with
    | nil => simp at a0
    | cons x xs => exact ⟨x, xs, rfl⟩
  simp only [List.drop_succ_cons, List.drop_zero] at b1
  simp only [List.length_cons] at a3
  have hx := hb x (by simp)
  have hcl : clamp (((x :: xs).getD 0 0 : Nat) : Int) = x := by simp [clamp]; omega
  have hd : (x :: xs).drop (1 + u) = xs.drop u := by rw [Nat.add_comm, List.drop_succ_cons]
  have hcl2 : ((xs.drop u).take m).length = m := by rw [List.length_take, List.length_drop]; omega
  have hh : head (((x :: xs).getD 0 0 : Nat) : Int) (((x :: xs).drop (1 + u)).take m) = (x :: xs).take (1 + u + m) := by
    unfold head
    rw [hcl, hd, hcl2, b1, ← List.take_add, show 1 + u + m = (u + m) + 1 by omega, List.take_succ_cons]
  refine ⟨?_, by omega, by simp only [List.length_cons]; omega⟩
  unfold frm
  rw [hh, a4, ← List.take_add]
theorem opn_bad (b : List Nat) (h : (opn b).err ≠ 0) : (opn b).cont = [] ∧ (opn b).size = 0 := by
  unfold opn at h ⊢
  by_cases a0 : b.length = 0
  · rw [if_pos a0]; exact ⟨rfl, rfl⟩
  rw [if_neg a0] at h ⊢
  by_cases a1 : (tk (b.drop 1)).err ≠ 0
  · rw [if_pos a1]; exact ⟨rfl, rfl⟩
  rw [if_neg a1] at h ⊢
  by_cases a2 : (tk (b.drop 1)).val < 0
  · rw [if_pos a2]; exact ⟨rfl, rfl⟩
  rw [if_neg a2] at h ⊢
  by_cases a3 : (b.length : Int) - 1 - (tk (b.drop 1)).size - 4 < (tk (b.drop 1)).val
  · rw [if_pos a3]; exact ⟨rfl, rfl⟩
  rw [if_neg a3] at h ⊢
  by_cases a4 : four (sum (b.take (1 + (tk (b.drop 1)).size + (tk (b.drop 1)).val.toNat))) = (b.drop (1 + (tk (b.drop 1)).size + (tk (b.drop 1)).val.toNat)).take 4
  · rw [if_pos a4] at h; simp at h
  · rw [if_neg a4]; exact ⟨rfl, rfl⟩
end Cod
end Go.Proofs.Ytepeamhoajlniaa
