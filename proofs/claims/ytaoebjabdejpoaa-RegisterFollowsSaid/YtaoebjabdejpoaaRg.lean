/- Plain law of register automata: what a valid one is, and the errors of others. -/
import Derived.Test.YtaoebjabdejpoaaMea
namespace Go.Proofs.Ytaoebjabdejpoaa.Rg
open Mea

/-- a transition -/
structure T where
  to : Int
  out : Int
  asg : List Int
def t0 : T := ⟨0, 0, []⟩
/-- a register automaton -/
structure M where
  I : Int
  S : Int
  rg : List Int
  tr : List (List (List T))
/-- the transitions of a location for an action -/
def cellT (m : M) (l a : Nat) : List T := (m.tr.getD l []).getD a []
/-- the transition i of them -/
def trans (m : M) (l a i : Nat) : T := (cellT m l a).getD i t0
/-- the number of registers of a location -/
def nr (m : M) (l : Nat) : Int := m.rg.getD l 0
def asgE (r : Int) (xs : List Int) (j : Nat) : Int := if xs.getD j 0 < 0 ∨ r < xs.getD j 0 then 2 else 0
/-- the error of a transition -/
def transE (m : M) (l : Nat) (t : T) : Int :=
  if t.to < 0 ∨ (m.rg.length : Int) ≤ t.to ∨ t.out < 0 ∨ 1048576 < t.out then 2 else if (t.asg.length : Int) ≠ nr m t.to.toNat then 1 else firstE (asgE (nr m l) t.asg) t.asg.length
def actE (m : M) (l a : Nat) : Int := if ((cellT m l a).length : Int) ≠ nr m l + 1 then 1 else firstE (fun i => transE m l (trans m l a i)) (cellT m l a).length
/-- the error of a location -/
def locE (m : M) (l : Nat) : Int := if ((m.tr.getD l []).length : Int) ≠ m.I then 1 else firstE (actE m l) m.I.toNat
def regE (m : M) (l : Nat) : Int := if nr m l < 0 ∨ 4 < nr m l then 2 else 0
/-- the error of an automaton -/
def validE (m : M) : Int :=
  if m.I < 1 ∨ 64 < m.I then 2 else if m.rg.length = 0 then 19 else if 128 < m.rg.length then 11 else if m.S < 0 ∨ (m.rg.length : Int) ≤ m.S then 2
  else if firstE (regE m) m.rg.length ≠ 0 then firstE (regE m) m.rg.length
  else if nr m m.S.toNat ≠ 0 ∨ m.tr.length ≠ m.rg.length then 1 else firstE (locE m) m.rg.length
theorem trans_out {m : M} {l : Nat} {t : T} (h : t.to < 0 ∨ (m.rg.length : Int) ≤ t.to ∨ t.out < 0 ∨ 1048576 < t.out) : transE m l t = 2 := by unfold transE; rw [if_pos h]
theorem trans_len {m : M} {l : Nat} {t : T} (h : ¬ (t.to < 0 ∨ (m.rg.length : Int) ≤ t.to ∨ t.out < 0 ∨ 1048576 < t.out)) (h1 : (t.asg.length : Int) ≠ nr m t.to.toNat) : transE m l t = 1 := by unfold transE; rw [if_neg h, if_pos h1]
theorem trans_in {m : M} {l : Nat} {t : T} (h : ¬ (t.to < 0 ∨ (m.rg.length : Int) ≤ t.to ∨ t.out < 0 ∨ 1048576 < t.out)) (h1 : ¬ (t.asg.length : Int) ≠ nr m t.to.toNat) : transE m l t = firstE (asgE (nr m l) t.asg) t.asg.length := by unfold transE; rw [if_neg h, if_neg h1]
theorem act_len {m : M} {l a : Nat} (h : ((cellT m l a).length : Int) ≠ nr m l + 1) : actE m l a = 1 := by unfold actE; rw [if_pos h]
theorem act_in {m : M} {l a : Nat} (h : ¬ ((cellT m l a).length : Int) ≠ nr m l + 1) : actE m l a = firstE (fun i => transE m l (trans m l a i)) (cellT m l a).length := by unfold actE; rw [if_neg h]
theorem loc_len {m : M} {l : Nat} (h : ((m.tr.getD l []).length : Int) ≠ m.I) : locE m l = 1 := by unfold locE; rw [if_pos h]
theorem loc_in {m : M} {l : Nat} (h : ¬ ((m.tr.getD l []).length : Int) ≠ m.I) : locE m l = firstE (actE m l) m.I.toNat := by unfold locE; rw [if_neg h]
section
variable {m : M}
theorem valid_I (h : m.I < 1 ∨ 64 < m.I) : validE m = 2 := by unfold validE; rw [if_pos h]
theorem valid_0 (h : ¬ (m.I < 1 ∨ 64 < m.I)) (h0 : m.rg.length = 0) : validE m = 19 := by
  unfold validE; rw [if_neg h, if_pos h0]
theorem valid_128 (h : ¬ (m.I < 1 ∨ 64 < m.I)) (h0 : 128 < m.rg.length) : validE m = 11 := by unfold validE; rw [if_neg h, if_neg (by omega), if_pos h0]
theorem valid_S (h : ¬ (m.I < 1 ∨ 64 < m.I)) (h0 : m.rg.length ≠ 0) (h1 : m.rg.length ≤ 128) (h2 : m.S < 0 ∨ (m.rg.length : Int) ≤ m.S) : validE m = 2 := by unfold validE; rw [if_neg h, if_neg h0, if_neg (by omega), if_pos h2]
/-- behind the first checks -/
structure Pre (m : M) (k s : Nat) : Prop where
  I : m.I = k
  S : m.S = s
  k1 : 1 ≤ k
  k64 : k ≤ 64
  n1 : 1 ≤ m.rg.length
  n128 : m.rg.length ≤ 128
  sl : s < m.rg.length
theorem pre_of (h : ¬ (m.I < 1 ∨ 64 < m.I)) (_ : m.rg.length ≠ 0) (h1 : m.rg.length ≤ 128) (h2 : ¬ (m.S < 0 ∨ (m.rg.length : Int) ≤ m.S)) : Pre m m.I.toNat m.S.toNat :=
  ⟨by omega, by omega, by omega, by omega, by omega, h1, by omega⟩
theorem Pre.eq {k s : Nat} (p : Pre m k s) : validE m = if firstE (regE m) m.rg.length ≠ 0 then firstE (regE m) m.rg.length else if nr m s ≠ 0 ∨ m.tr.length ≠ m.rg.length then 1 else firstE (locE m) m.rg.length := by
  have hI := p.I; have hS := p.S; have h1 := p.k1; have h2 := p.k64; have h3 := p.n1; have h4 := p.n128; have h5 := p.sl
  unfold validE
  rw [if_neg (by omega), if_neg (by omega), if_neg (by omega), if_neg (by omega), hS, Int.toNat_natCast]
theorem Pre.reg {k s : Nat} (p : Pre m k s) (h : firstE (regE m) m.rg.length ≠ 0) : validE m = firstE (regE m) m.rg.length := by rw [p.eq, if_pos h]
theorem Pre.bad {k s : Nat} (p : Pre m k s) (h : firstE (regE m) m.rg.length = 0) (h1 : nr m s ≠ 0 ∨ m.tr.length ≠ m.rg.length) : validE m = 1 := by rw [p.eq, if_neg (by omega), if_pos h1]
theorem Pre.locs {k s : Nat} (p : Pre m k s) (h : firstE (regE m) m.rg.length = 0) (h1 : ¬ (nr m s ≠ 0 ∨ m.tr.length ≠ m.rg.length)) : validE m = firstE (locE m) m.rg.length := by rw [p.eq, if_neg (by omega), if_neg h1]
theorem reg_no {l : Nat} (h : regE m l = 0) : 0 ≤ nr m l ∧ nr m l ≤ 4 := by
  unfold regE at h
  by_cases hc : nr m l < 0 ∨ 4 < nr m l
  · rw [if_pos hc] at h; omega
  · omega
/-- a transition of a location with r registers is sound -/
structure TOk (m : M) (l : Nat) (t : T) : Prop where
  to0 : 0 ≤ t.to
  to1 : t.to < m.rg.length
  o0 : 0 ≤ t.out
  o1 : t.out ≤ 1048576
  len : (t.asg.length : Int) = nr m t.to.toNat
  asg : ∀ j, j < t.asg.length → 0 ≤ t.asg.getD j 0 ∧ t.asg.getD j 0 ≤ nr m l
theorem tok_of {l : Nat} {t : T} (h : transE m l t = 0) : TOk m l t := by
  unfold transE at h
  split at h
  · omega
  · rename_i h1
    split at h
    · omega
    · rename_i h2
      refine ⟨by omega, by omega, by omega, by omega, by omega, fun j hj => ?_⟩
      have := firstE_of_zero h j hj
      unfold asgE at this
      split at this
      · omega
      · omega
/-- what a valid automaton is: k actions, the location s at the beginning -/
structure Ok (m : M) (k s : Nat) : Prop where
  I : m.I = k
  S : m.S = s
  k1 : 1 ≤ k
  k64 : k ≤ 64
  n1 : 1 ≤ m.rg.length
  n128 : m.rg.length ≤ 128
  sl : s < m.rg.length
  r : ∀ l, l < m.rg.length → 0 ≤ nr m l ∧ nr m l ≤ 4
  r0 : nr m s = 0
  trl : m.tr.length = m.rg.length
  loc : ∀ l, l < m.rg.length → (m.tr.getD l []).length = k
  row : ∀ l a, l < m.rg.length → a < k → ((cellT m l a).length : Int) = nr m l + 1
  t : ∀ l a i, l < m.rg.length → a < k → i < (cellT m l a).length → TOk m l (trans m l a i)
theorem ok_of (h : validE m = 0) : ∃ k s : Nat, Ok m k s := by
  have h0 := h
  unfold validE at h0
  split at h0
  · omega
  rename_i h1
  split at h0
  · omega
  rename_i h2
  split at h0
  · omega
  rename_i h3
  split at h0
  · omega
  rename_i h4
  have p := pre_of h1 h2 (by omega) h4
  clear h0
  by_cases hr : firstE (regE m) m.rg.length = 0
  · by_cases hb : nr m m.S.toNat ≠ 0 ∨ m.tr.length ≠ m.rg.length
    · rw [p.bad hr hb] at h; omega
    · rw [p.locs hr hb] at h
      have hl := firstE_of_zero h
      have hI := p.I
      have loc : ∀ l, l < m.rg.length → (m.tr.getD l []).length = m.I.toNat ∧ ∀ a, a < m.I.toNat → actE m l a = 0 := fun l hll => by
        have := hl l hll
        unfold locE at this
        split at this
        · omega
        · exact ⟨by omega, fun a ha => firstE_of_zero this a ha⟩
      have row : ∀ l a, l < m.rg.length → a < m.I.toNat → ((cellT m l a).length : Int) = nr m l + 1 ∧ ∀ i, i < (cellT m l a).length → TOk m l (trans m l a i) := fun l a hll ha => by
        have := (loc l hll).2 a ha
        unfold actE at this
        split at this
        · omega
        · exact ⟨by omega, fun i hi => tok_of (firstE_of_zero this i hi)⟩
      exact ⟨_, _, p.I, p.S, p.k1, p.k64, p.n1, p.n128, p.sl, fun l hll => reg_no (firstE_of_zero hr l hll), by omega, by omega, fun l hll => (loc l hll).1, fun l a hll ha => (row l a hll ha).1, fun l a i hll ha hi => (row l a hll ha).2 i hi⟩
  · rw [p.reg hr] at h; exact absurd h hr
theorem tok_no {l : Nat} {t : T} (h : TOk m l t) : transE m l t = 0 := by
  have h1 := h.to0; have h2 := h.to1; have h3 := h.o0; have h4 := h.o1; have h5 := h.len
  rw [trans_in (by omega) (by omega)]
  exact firstE_zero fun j hj => by have := h.asg j hj; unfold asgE; rw [if_neg (by omega)]
theorem Ok.valid {k s : Nat} (h : Ok m k s) : validE m = 0 := by
  have p : Pre m k s := ⟨h.I, h.S, h.k1, h.k64, h.n1, h.n128, h.sl⟩
  have hr : firstE (regE m) m.rg.length = 0 := firstE_zero fun j hj => by have := h.r j hj; unfold regE; rw [if_neg (by omega)]
  have h0 := h.r0; have h1 := h.trl; have hI := h.I
  rw [p.locs hr (by omega)]
  refine firstE_zero fun l hl => ?_
  have h2 := h.loc l hl
  rw [loc_in (by omega)]
  refine firstE_zero fun a ha => ?_
  have h3 := h.row l a hl (by omega)
  rw [act_in (by omega)]
  exact firstE_zero fun i hi => tok_no (h.t l a i hl (by omega) hi)
end
end Go.Proofs.Ytaoebjabdejpoaa.Rg
