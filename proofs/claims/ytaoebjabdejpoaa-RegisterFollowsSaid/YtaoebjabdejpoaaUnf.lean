/- Plain law of the unfolding of a register automaton. -/
import Derived.Test.YtaoebjabdejpoaaSea
namespace Go.Proofs.Ytaoebjabdejpoaa.Rg
open Mea

/-- a state of the unfolding: location, registers, number of values -/
abbrev Uc := Nat × List Int × Nat
def uPoss (d : Nat) (n j : Nat) : Bool := decide ((j = 0 ∧ n < d) ∨ (0 < j ∧ j ≤ n))
def uVal (n j : Nat) : Nat := if j = 0 then n + 1 else j
def uN (m : M) (d : Nat) (c : Uc) (x : Nat) : Uc :=
  if uPoss d c.2.2 (x % (d + 1)) = true then ((nxt m (c.1, c.2.1) (x / (d + 1)) (uVal c.2.2 (x % (d + 1)) : Nat)).1, (nxt m (c.1, c.2.1) (x / (d + 1)) (uVal c.2.2 (x % (d + 1)) : Nat)).2, max c.2.2 (uVal c.2.2 (x % (d + 1)))) else c
def uO (m : M) (d : Nat) (c : Uc) (x : Nat) : Int :=
  if uPoss d c.2.2 (x % (d + 1)) = true then 1 + (tOf m (c.1, c.2.1) (x / (d + 1)) (uVal c.2.2 (x % (d + 1)) : Nat)).out else 0
theorem uN_yes {m : M} {d : Nat} {c : Uc} {x : Nat} (h : uPoss d c.2.2 (x % (d + 1)) = true) : uN m d c x = ((nxt m (c.1, c.2.1) (x / (d + 1)) (uVal c.2.2 (x % (d + 1)) : Nat)).1, (nxt m (c.1, c.2.1) (x / (d + 1)) (uVal c.2.2 (x % (d + 1)) : Nat)).2, max c.2.2 (uVal c.2.2 (x % (d + 1)))) := if_pos h
theorem uN_no {m : M} {d : Nat} {c : Uc} {x : Nat} (h : uPoss d c.2.2 (x % (d + 1)) = false) : uN m d c x = c := if_neg (by rw [h]; simp)
theorem uO_yes {m : M} {d : Nat} {c : Uc} {x : Nat} (h : uPoss d c.2.2 (x % (d + 1)) = true) : uO m d c x = 1 + (tOf m (c.1, c.2.1) (x / (d + 1)) (uVal c.2.2 (x % (d + 1)) : Nat)).out := if_pos h
theorem uO_no {m : M} {d : Nat} {c : Uc} {x : Nat} (h : uPoss d c.2.2 (x % (d + 1)) = false) : uO m d c x = 0 := if_neg (by rw [h]; simp)
structure UcOk (m : M) (d : Nat) (c : Uc) : Prop where
  st : StOk m (c.1, c.2.1)
  n : c.2.2 ≤ d
  b : ∀ x ∈ c.2.1, 0 ≤ x ∧ x ≤ (d : Int)
/-- the search -/
def srch (m : M) (k d : Nat) : Srch Uc := ⟨k * (d + 1), uN m d, uO m d, UcOk m d⟩
theorem act_lt {k d x : Nat} (h : x < k * (d + 1)) : x / (d + 1) < k := (Nat.div_lt_iff_lt_mul (by omega)).2 h
section
variable {m : M} {k s d : Nat}
theorem uN_ok (h : Ok m k s) {c : Uc} {x : Nat} (hc : UcOk m d c) (hx : x < k * (d + 1)) : UcOk m d (uN m d c x) := by
  cases hp : uPoss d c.2.2 (x % (d + 1)) with
  | false => rw [uN_no hp]; exact hc
  | true =>
    rw [uN_yes hp]
    have h1 : (x % (d + 1) = 0 ∧ c.2.2 < d) ∨ (0 < x % (d + 1) ∧ x % (d + 1) ≤ c.2.2) := of_decide_eq_true hp
    have h2 := hc.n
    have h3 : uVal c.2.2 (x % (d + 1)) ≤ d := by unfold uVal; split <;> omega
    refine ⟨nxt_ok h hc.st (act_lt hx) _, ?_, fun z hz => ?_⟩
    · show max c.2.2 (uVal c.2.2 (x % (d + 1))) ≤ d
      omega
    · have hz' : z ∈ (tOf m (c.1, c.2.1) (x / (d + 1)) (uVal c.2.2 (x % (d + 1)) : Nat)).asg.map (sub c.2.1 (uVal c.2.2 (x % (d + 1)) : Nat)) := hz
      obtain ⟨y, hy, rfl⟩ := List.mem_map.1 hz'
      unfold sub
      split
      · omega
      · rw [List.getD_eq_getElem?_getD]
        cases hg : c.2.1[y.toNat - 1]? with
        | none => show 0 ≤ (0 : Int) ∧ (0 : Int) ≤ _; omega
        | some u => exact hc.b u (List.mem_of_getElem? hg)
theorem srch_ok (h : Ok m k s) : (srch m k d).Ok := by
  refine ⟨fun c i hc hi => uN_ok h hc hi, fun c i hc hi => ?_⟩
  show 0 ≤ uO m d c i
  cases hp : uPoss d c.2.2 (i % (d + 1)) with
  | false => rw [uO_no hp]; omega
  | true => rw [uO_yes hp]; have := (tOf_ok h hc.st (act_lt hi) (uVal c.2.2 (i % (d + 1)) : Nat)).o0; omega
def uc0 (s : Nat) : Uc := (s, [], 0)
theorem uc0_ok (h : Ok m k s) : (srch m k d).P (uc0 s) := by
  have := s0_ok h
  unfold s0 at this
  rw [h.S, Int.toNat_natCast] at this
  exact ⟨this, Nat.zero_le _, fun x hx => by simp [uc0] at hx⟩
end
/-- the unfolding: error, number of symbols, tables -/
def unfE (m : M) (d : Int) : Int × Int × List (List Int) × List (List Int) :=
  if validE m ≠ 0 then (validE m, 0, [], [])
  else if permB m.I d = false then (2, 0, [], [])
  else if (sea (srch m m.I.toNat d.toNat) (uc0 m.S.toNat)).1 ≠ 0 then ((sea (srch m m.I.toNat d.toNat) (uc0 m.S.toNat)).1, 0, [], [])
  else (0, m.I * (d + 1), (sea (srch m m.I.toNat d.toNat) (uc0 m.S.toNat)).2.1, (sea (srch m m.I.toNat d.toNat) (uc0 m.S.toNat)).2.2)
theorem unf_bad {m : M} {d : Int} (h : validE m ≠ 0) : unfE m d = (validE m, 0, [], []) := by unfold unfE; rw [if_pos h]
theorem unf_perm {m : M} {d : Int} (h : validE m = 0) (h1 : permB m.I d = false) : unfE m d = (2, 0, [], []) := by unfold unfE; rw [if_neg (by omega), if_pos h1]
theorem unf_err {m : M} {k s d : Nat} (h : Ok m k s) (h1 : permB m.I (d : Int) = true) {e : Int} (he : e ≠ 0) (hr : sea (srch m k d) (uc0 s) = (e, [], [])) : unfE m (d : Int) = (e, 0, [], []) := by
  unfold unfE
  rw [if_neg (by simp [h.valid]), if_neg (by simp [h1]), h.I, h.S]
  simp only [Int.toNat_natCast]
  rw [hr, if_pos he]
theorem unf_ok {m : M} {k s d : Nat} (h : Ok m k s) (h1 : permB m.I (d : Int) = true) {nx out : List (List Int)} (hr : sea (srch m k d) (uc0 s) = (0, nx, out)) : unfE m (d : Int) = (0, (k : Int) * ((d : Int) + 1), nx, out) := by
  unfold unfE
  rw [if_neg (by simp [h.valid]), if_neg (by simp [h1]), h.I, h.S]
  simp only [Int.toNat_natCast]
  rw [hr, if_neg (by simp)]
end Go.Proofs.Ytaoebjabdejpoaa.Rg
