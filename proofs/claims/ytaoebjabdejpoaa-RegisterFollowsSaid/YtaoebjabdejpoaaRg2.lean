/- Plain law of register automata: steps, runs, canonical words, symbols and data words. -/
import Derived.Test.YtaoebjabdejpoaaRg
namespace Go.Proofs.Ytaoebjabdejpoaa.Rg
open Mea

section
variable {α : Type} [DecidableEq α]
/-- where something is in a list: the list's length if it is not there -/
def idx (q : List α) (c : α) : Nat := q.idxOf c
theorem idx_le (q : List α) (c : α) : idx q c ≤ q.length := List.idxOf_le_length
theorem idx_lt {q : List α} {c : α} : idx q c < q.length ↔ c ∈ q := List.idxOf_lt_length_iff
theorem idx_eq {q : List α} {c : α} : idx q c = q.length ↔ c ∉ q := by
  have h1 := idx_le q c
  have h2 := @idx_lt α _ q c
  constructor
  · intro h hm; have := h2.2 hm; omega
  · intro h
    rcases Nat.lt_or_ge (idx q c) q.length with hl | hl
    · exact absurd (h2.1 hl) h
    · omega
theorem idx_get {q : List α} {c : α} (h : c ∈ q) : q[idx q c]? = some c := by
  have hl := idx_lt.2 h
  rw [List.getElem?_eq_getElem hl]
  congr 1
  exact List.getElem_idxOf hl
theorem idx_of_get {q : List α} (hd : q.Nodup) {j : Nat} {c : α} (h : q[j]? = some c) : idx q c = j := by
  have hm : c ∈ q := List.mem_of_getElem? h
  exact (List.getElem?_inj (idx_lt.2 hm) hd).1 ((idx_get hm).trans h.symm)
/-- the first j are not it -/
theorem idx_step {q : List α} {c : α} {j : Nat} (hj : j ≤ idx q c) {d : α} (hd : q[j]? = some d) : (d = c → idx q c = j) ∧ (d ≠ c → j + 1 ≤ idx q c) := by
  have hjl : j < q.length := (List.getElem?_eq_some_iff.1 hd).1
  induction q generalizing j with
  | nil => simp at hjl
  | cons x q ih =>
    unfold idx at *
    rw [List.idxOf_cons] at *
    cases j with
    | zero =>
      simp at hd; subst hd
      constructor
      · rintro rfl; simp
      · intro hne
        have : (x == c) = false := by simpa using hne
        rw [this]; simp
    | succ j =>
      by_cases hx : x = c
      · have : (x == c) = true := by simpa using hx
        rw [this] at hj; simp at hj
      · have hf : (x == c) = false := by simpa using hx
        rw [hf] at hj ⊢
        simp only [cond_false] at hj ⊢
        have := ih (j := j) (by omega) (by simpa using hd) (by simpa using hjl)
        constructor
        · intro e; rw [this.1 e]
        · intro e; have := this.2 e; omega
theorem idx_app {q t : List α} {c : α} (h : c ∈ q) : idx (q ++ t) c = idx q c := by
  unfold idx; rw [List.idxOf_append, if_pos h]
theorem idx_new {q : List α} {c : α} (h : c ∉ q) : idx (q ++ [c]) c = q.length := by
  unfold idx; rw [List.idxOf_append, if_neg h]; simp
end
/-! ### steps -/
/-- the first of the last j registers that has the value: its number, from 1 on; 0: none -/
def fndD (r : List Int) (v : Int) : Nat → Nat
  | 0 => 0
  | j + 1 => if r.getD (r.length - (j + 1)) 0 = v then r.length - j else fndD r v j
def fnd (r : List Int) (v : Int) : Nat := fndD r v r.length
theorem fndD_yes {r : List Int} {v : Int} {j : Nat} (h : r.getD (r.length - (j + 1)) 0 = v) : fndD r v (j + 1) = r.length - j := by unfold fndD; rw [if_pos h]
theorem fndD_no {r : List Int} {v : Int} {j : Nat} (h : r.getD (r.length - (j + 1)) 0 ≠ v) : fndD r v (j + 1) = fndD r v j := by
  show (if _ then _ else _) = _
  rw [if_neg h]
theorem fndD_le (r : List Int) (v : Int) : ∀ j, fndD r v j ≤ r.length
  | 0 => Nat.zero_le _
  | j + 1 => by
    by_cases h : r.getD (r.length - (j + 1)) 0 = v
    · rw [fndD_yes h]; omega
    · rw [fndD_no h]; exact fndD_le r v j
theorem fnd_le (r : List Int) (v : Int) : fnd r v ≤ r.length := fndD_le r v _
/-- a state: a location and the contents of its registers -/
abbrev St := Nat × List Int
/-- the transition that is taken -/
def tOf (m : M) (st : St) (a : Nat) (v : Int) : T := trans m st.1 a (fnd st.2 v)
/-- what is assigned -/
def sub (r : List Int) (v x : Int) : Int := if x = 0 then v else r.getD (x.toNat - 1) 0
def nxt (m : M) (st : St) (a : Nat) (v : Int) : St := ((tOf m st a v).to.toNat, (tOf m st a v).asg.map (sub st.2 v))
structure StOk (m : M) (st : St) : Prop where
  l : st.1 < m.rg.length
  r : (st.2.length : Int) = nr m st.1
section
variable {m : M} {k s : Nat}
theorem fnd_in (h : Ok m k s) {st : St} (hs : StOk m st) {a : Nat} (ha : a < k) (v : Int) : fnd st.2 v < (cellT m st.1 a).length := by
  have := h.row st.1 a hs.l ha
  have := fnd_le st.2 v
  have := hs.r
  omega
theorem tOf_ok (h : Ok m k s) {st : St} (hs : StOk m st) {a : Nat} (ha : a < k) (v : Int) : TOk m st.1 (tOf m st a v) := h.t _ _ _ hs.l ha (fnd_in h hs ha v)
theorem nxt_ok (h : Ok m k s) {st : St} (hs : StOk m st) {a : Nat} (ha : a < k) (v : Int) : StOk m (nxt m st a v) := by
  have t := tOf_ok h hs ha v
  have h0 := t.to0
  have h1 := t.to1
  refine ⟨by show (tOf m st a v).to.toNat < _; omega, ?_⟩
  show (((tOf m st a v).asg.map (sub st.2 v)).length : Int) = nr m (tOf m st a v).to.toNat
  rw [List.length_map]; exact t.len
theorem StOk.r4 (h : Ok m k s) {st : St} (hs : StOk m st) : st.2.length ≤ 4 := by
  have := h.r st.1 hs.l
  have := hs.r
  omega
end
/-! ### runs -/
abbrev Dw := List (Int × Int)
def s0 (m : M) : St := (m.S.toNat, [])
/-- the state ahead of the symbol j -/
def stA (m : M) (w : Dw) : Nat → St
  | 0 => s0 m
  | j + 1 => nxt m (stA m w j) (w.getD j (0, 0)).1.toNat (w.getD j (0, 0)).2
def outA (m : M) (w : Dw) (j : Nat) : Int := (tOf m (stA m w j) (w.getD j (0, 0)).1.toNat (w.getD j (0, 0)).2).out
def outs (m : M) (w : Dw) (j : Nat) : List Int := (List.range j).map (outA m w)
theorem outs_len (m : M) (w : Dw) (j : Nat) : (outs m w j).length = j := by simp [outs]
theorem outs_succ (m : M) (w : Dw) (j : Nat) : outs m w (j + 1) = outs m w j ++ [outA m w j] := by simp [outs, List.range_succ]
/-- the error of an action -/
def datE (I : Int) (w : Dw) (j : Nat) : Int := if (w.getD j (0, 0)).1 < 0 ∨ I ≤ (w.getD j (0, 0)).1 then 1 else 0
theorem dat_no {I : Int} {w : Dw} {j : Nat} (h : datE I w j = 0) : 0 ≤ (w.getD j (0, 0)).1 ∧ (w.getD j (0, 0)).1 < I := by
  unfold datE at h
  split at h
  · omega
  · omega
/-- the error and the outputs of a data word -/
def runE (m : M) (w : Dw) : Int × List Int :=
  if validE m ≠ 0 then (validE m, []) else if 1024 < w.length then (3, []) else if firstE (datE m.I w) w.length ≠ 0 then (firstE (datE m.I w) w.length, []) else (0, outs m w w.length)
theorem s0_ok {m : M} {k s : Nat} (h : Ok m k s) : StOk m (s0 m) := by
  have h1 := h.sl; have h2 := h.r0; have h3 := h.S
  unfold s0
  rw [h3, Int.toNat_natCast]
  exact ⟨h1, by simp [h2]⟩
theorem stA_ok {m : M} {k s : Nat} (h : Ok m k s) {w : Dw} (hw : firstE (datE m.I w) w.length = 0) : ∀ j, j ≤ w.length → StOk m (stA m w j)
  | 0, _ => s0_ok h
  | j + 1, hj => by
    have hd := dat_no (firstE_of_zero hw j (by omega))
    have hI := h.I
    exact nxt_ok h (stA_ok h hw j (by omega)) (by omega) _
/-! ### canonical words -/
/-- the values of the first j symbols, each once -/
def vals (w : Dw) : Nat → List Int
  | 0 => []
  | j + 1 => if (w.getD j (0, 0)).2 ∈ vals w j then vals w j else vals w j ++ [(w.getD j (0, 0)).2]
/-- the number of the value of the symbol j -/
def numA (w : Dw) (j : Nat) : Nat := idx (vals w (j + 1)) (w.getD j (0, 0)).2 + 1
def canA (w : Dw) (j : Nat) : Int × Int := ((w.getD j (0, 0)).1, (numA w j : Int))
/-- the canonical form of the first j symbols -/
def canon (w : Dw) (j : Nat) : Dw := (List.range j).map (canA w)
theorem canon_len (w : Dw) (j : Nat) : (canon w j).length = j := by simp [canon]
theorem canon_succ (w : Dw) (j : Nat) : canon w (j + 1) = canon w j ++ [canA w j] := by simp [canon, List.range_succ]
theorem vals_old {w : Dw} {j : Nat} (h : (w.getD j (0, 0)).2 ∈ vals w j) : vals w (j + 1) = vals w j := by
  show (if _ then _ else _) = _
  rw [if_pos h]
theorem vals_new {w : Dw} {j : Nat} (h : (w.getD j (0, 0)).2 ∉ vals w j) : vals w (j + 1) = vals w j ++ [(w.getD j (0, 0)).2] := by
  show (if _ then _ else _) = _
  rw [if_neg h]
theorem num_old {w : Dw} {j : Nat} (h : (w.getD j (0, 0)).2 ∈ vals w j) : numA w j = idx (vals w j) (w.getD j (0, 0)).2 + 1 := by unfold numA; rw [vals_old h]
theorem num_new {w : Dw} {j : Nat} (h : (w.getD j (0, 0)).2 ∉ vals w j) : numA w j = (vals w j).length + 1 := by unfold numA; rw [vals_new h, idx_new h]
theorem vals_nd (w : Dw) : ∀ j, (vals w j).Nodup
  | 0 => List.nodup_nil
  | j + 1 => by
    by_cases h : (w.getD j (0, 0)).2 ∈ vals w j
    · rw [vals_old h]; exact vals_nd w j
    · rw [vals_new h, List.nodup_append]
      exact ⟨vals_nd w j, by simp, fun a ha b hb => by simp at hb; subst hb; rintro rfl; exact h ha⟩
theorem vals_len (w : Dw) : ∀ j, (vals w j).length ≤ j
  | 0 => Nat.le_refl _
  | j + 1 => by
    have := vals_len w j
    by_cases h : (w.getD j (0, 0)).2 ∈ vals w j
    · rw [vals_old h]; omega
    · rw [vals_new h, List.length_append]; simp; omega
theorem vals_pre (w : Dw) (j : Nat) : ∃ t, vals w (j + 1) = vals w j ++ t := by
  by_cases h : (w.getD j (0, 0)).2 ∈ vals w j
  · exact ⟨[], by rw [vals_old h]; simp⟩
  · exact ⟨_, vals_new h⟩
theorem vals_has (w : Dw) (j : Nat) : (w.getD j (0, 0)).2 ∈ vals w (j + 1) := by
  by_cases h : (w.getD j (0, 0)).2 ∈ vals w j
  · rw [vals_old h]; exact h
  · rw [vals_new h]; simp
theorem num_le (w : Dw) (j : Nat) : numA w j ≤ (vals w (j + 1)).length := idx_lt.2 (vals_has w j)
/-! ### symbols -/
def permB (a d : Int) : Bool := decide (1 ≤ a ∧ a ≤ 64 ∧ 1 ≤ d ∧ d ≤ 6 ∧ a * (d + 1) ≤ 64)
def symE0 (w : Dw) (a d : Int) (j : Nat) : Int := if (w.getD j (0, 0)).1 < 0 ∨ a ≤ (w.getD j (0, 0)).1 then 1 else if d < (vals w (j + 1)).length then 18 else 0
/-- the number of a value that was there before; 0: it is new -/
def oldN (w : Dw) (j : Nat) : Nat := if (w.getD j (0, 0)).2 ∈ vals w j then numA w j else 0
def symA (w : Dw) (d : Int) (j : Nat) : Int := (w.getD j (0, 0)).1 * (d + 1) + (oldN w j : Int)
def syms (w : Dw) (d : Int) (j : Nat) : List Int := (List.range j).map (symA w d)
theorem syms_len (w : Dw) (d : Int) (j : Nat) : (syms w d j).length = j := by simp [syms]
theorem syms_succ (w : Dw) (d : Int) (j : Nat) : syms w d (j + 1) = syms w d j ++ [symA w d j] := by simp [syms, List.range_succ]
/-- the error and the symbols of a data word -/
def symE (w : Dw) (a d : Int) : Int × List Int :=
  if permB a d = false then (2, []) else if 1024 < w.length then (3, []) else if firstE (symE0 w a d) w.length ≠ 0 then (firstE (symE0 w a d) w.length, []) else (0, syms w d w.length)
theorem sym_act {w : Dw} {a d : Int} {j : Nat} (h : (w.getD j (0, 0)).1 < 0 ∨ a ≤ (w.getD j (0, 0)).1) : symE0 w a d j = 1 := by unfold symE0; rw [if_pos h]
theorem sym_many {w : Dw} {a d : Int} {j : Nat} (h : ¬ ((w.getD j (0, 0)).1 < 0 ∨ a ≤ (w.getD j (0, 0)).1)) (h1 : d < (vals w (j + 1)).length) : symE0 w a d j = 18 := by unfold symE0; rw [if_neg h, if_pos h1]
theorem sym_no {w : Dw} {a d : Int} {j : Nat} (h : ¬ ((w.getD j (0, 0)).1 < 0 ∨ a ≤ (w.getD j (0, 0)).1)) (h1 : ¬ d < (vals w (j + 1)).length) : symE0 w a d j = 0 := by unfold symE0; rw [if_neg h, if_neg h1]
/-! ### data words of symbols -/
def remA (w : List Int) (d : Int) (j : Nat) : Int := w.getD j 0 % (d + 1)
/-- the number of new values among the first j -/
def zer (w : List Int) (d : Int) : Nat → Nat
  | 0 => 0
  | j + 1 => if remA w d j = 0 then zer w d j + 1 else zer w d j
def valJ (w : List Int) (d : Int) (j : Nat) : Int := if remA w d j = 0 then ((zer w d j + 1 : Nat) : Int) else remA w d j
def datE0 (w : List Int) (d : Int) (j : Nat) : Int := if d < zer w d (j + 1) ∨ (zer w d (j + 1) : Int) < valJ w d j then 1 else 0
def datA (w : List Int) (d : Int) (j : Nat) : Int × Int := (w.getD j 0 / (d + 1), valJ w d j)
def dats (w : List Int) (d : Int) (j : Nat) : Dw := (List.range j).map (datA w d)
theorem dats_len (w : List Int) (d : Int) (j : Nat) : (dats w d j).length = j := by simp [dats]
theorem dats_succ (w : List Int) (d : Int) (j : Nat) : dats w d (j + 1) = dats w d j ++ [datA w d j] := by simp [dats, List.range_succ]
theorem zer_yes {w : List Int} {d : Int} {j : Nat} (h : remA w d j = 0) : zer w d (j + 1) = zer w d j + 1 ∧ valJ w d j = ((zer w d j + 1 : Nat) : Int) := by
  constructor
  · show (if _ then _ else _) = _
    rw [if_pos h]
  · unfold valJ; rw [if_pos h]
theorem zer_no {w : List Int} {d : Int} {j : Nat} (h : remA w d j ≠ 0) : zer w d (j + 1) = zer w d j ∧ valJ w d j = remA w d j := by
  constructor
  · show (if _ then _ else _) = _
    rw [if_neg h]
  · unfold valJ; rw [if_neg h]
/-- the error of a word of symbols below k -/
def wordE (k : Int) (w : List Int) : Int := if k < 1 ∨ 1024 < k then 2 else if 1024 < w.length then 3 else if firstE (fun j => if w.getD j 0 < 0 ∨ k ≤ w.getD j 0 then 1 else 0) w.length ≠ 0 then 1 else 0
/-- the error and the data word of symbols -/
def datX (w : List Int) (a d : Int) : Int × Dw :=
  if permB a d = false then (2, []) else if wordE (a * (d + 1)) w ≠ 0 then (wordE (a * (d + 1)) w, []) else if firstE (datE0 w d) w.length ≠ 0 then (firstE (datE0 w d) w.length, []) else (0, dats w d w.length)
end Go.Proofs.Ytaoebjabdejpoaa.Rg
