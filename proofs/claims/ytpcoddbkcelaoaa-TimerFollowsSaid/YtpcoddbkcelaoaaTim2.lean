/- Plain law of the search over configurations: the list of the reachable ones; which timers run in which states; the machine without time. -/
import Derived.Test.YtpcoddbkcelaoaaTim
namespace Go.Proofs.Ytpcoddbkcelaoaa.Tm
open Mea

/-- where a configuration is in a list: the list's length if it is not there -/
def idx (q : List Cfg) (c : Cfg) : Nat := q.idxOf c
theorem idx_le (q : List Cfg) (c : Cfg) : idx q c ≤ q.length := List.idxOf_le_length
theorem idx_lt {q : List Cfg} {c : Cfg} : idx q c < q.length ↔ c ∈ q := List.idxOf_lt_length_iff
theorem idx_eq {q : List Cfg} {c : Cfg} : idx q c = q.length ↔ c ∉ q := by
  have h1 := idx_le q c
  have h2 := @idx_lt q c
  constructor
  · intro h hm; have := h2.2 hm; omega
  · intro h
    rcases Nat.lt_or_ge (idx q c) q.length with hl | hl
    · exact absurd (h2.1 hl) h
    · omega
theorem idx_get {q : List Cfg} {c : Cfg} (h : c ∈ q) : q[idx q c]? = some c := by
  have hl := idx_lt.2 h
  rw [List.getElem?_eq_getElem hl]
  congr 1
  exact List.getElem_idxOf hl
theorem idx_of_get {q : List Cfg} (hd : q.Nodup) {j : Nat} {c : Cfg} (h : q[j]? = some c) : idx q c = j := by
  have hj : j < q.length := by
    rcases Nat.lt_or_ge j q.length with hl | hl
    · exact hl
    · rw [List.getElem?_eq_none hl] at h; cases h
  have hm : c ∈ q := List.mem_of_getElem? h
  have h2 := idx_get hm
  exact (List.getElem?_inj (idx_lt.2 hm) hd).1 (h2.trans h.symm)
/-- the first j are not it -/
theorem idx_step {q : List Cfg} {c : Cfg} {j : Nat} (hj : j ≤ idx q c) {d : Cfg} (hd : q[j]? = some d) : (d = c → idx q c = j) ∧ (d ≠ c → j + 1 ≤ idx q c) := by
  have hjl : j < q.length := by
    rcases Nat.lt_or_ge j q.length with hl | hl
    · exact hl
    · rw [List.getElem?_eq_none hl] at hd; cases hd
  induction q generalizing j with
  | nil => simp at hjl
  | cons x q ih =>
    unfold idx at *
    rw [List.idxOf_cons] at *
    cases j with
    | zero =>
      simp at hd; subst hd
      constructor
      · rintro rfl; simp
      · intro hne
        have : (x == c) = false := by simpa using hne
        rw [this]; simp
    | succ j =>
      by_cases hx : x = c
      · have : (x == c) = true := by simpa using hx
        rw [this] at hj; simp at hj
      · have hf : (x == c) = false := by simpa using hx
        rw [hf] at hj ⊢
        simp only [cond_false] at hj ⊢
        have := ih (j := j) (by omega) (by simpa using hd) (by simpa using hjl)
        constructor
        · intro e; rw [this.1 e]
        · intro e; have := this.2 e; omega

def addC (q : List Cfg) (c : Cfg) : List Cfg := if c ∈ q then q else q ++ [c]
theorem addC_in {q : List Cfg} {c : Cfg} (h : c ∈ q) : addC q c = q := by unfold addC; rw [if_pos h]
theorem addC_new {q : List Cfg} {c : Cfg} (h : c ∉ q) : addC q c = q ++ [c] := by unfold addC; rw [if_neg h]
theorem Good.add {n T : Nat} {q : List Cfg} (h : Good n T q) {c : Cfg} (hc : CfgOk n T c) : Good n T (addC q c) := by
  by_cases hm : c ∈ q
  · rw [addC_in hm]; exact h
  · rw [addC_new hm]; exact h.snoc hc hm
/-- symbols i .. i + j - 1 of a configuration -/
def rowQ (m : M) (k : Nat) (c : Cfg) : Nat → Nat → List Cfg → List Cfg
  | 0, _, q => q
  | j + 1, i, q => rowQ m k c j (i + 1) (if poss k c i = true then addC q (aftC m k c i) else q)
def bfs (m : M) (k n : Nat) : Nat → Nat → List Cfg → List Cfg
  | 0, _, q => q
  | f + 1, a, q => if a < q.length then bfs m k n f (a + 1) (rowQ m k (q.getD a (0, [])) n 0 q) else q
section
variable {m : M} {k T S : Nat}
theorem Good.row (h : Ok m k T S) {c : Cfg} (hc : CfgOk m.nx.length T c) : ∀ (j i : Nat) {q : List Cfg}, i + j ≤ k + T → Good m.nx.length T q → Good m.nx.length T (rowQ m k c j i q)
  | 0, _, _, _, hq => hq
  | j + 1, i, q, hi, hq => by
    unfold rowQ
    split
    · exact Good.row h hc j (i + 1) (by omega) (hq.add (aft_ok h hc (by omega)))
    · exact Good.row h hc j (i + 1) (by omega) hq
theorem rowQ_pre (m : M) (k : Nat) (c : Cfg) : ∀ (j i : Nat) (q : List Cfg), ∃ t, rowQ m k c j i q = q ++ t
  | 0, _, q => ⟨[], by simp [rowQ]⟩
  | j + 1, i, q => by
    unfold rowQ
    split
    · obtain ⟨t, ht⟩ := rowQ_pre m k c j (i + 1) (addC q (aftC m k c i))
      rw [ht]
      unfold addC
      split
      · exact ⟨t, rfl⟩
      · exact ⟨[aftC m k c i] ++ t, by simp⟩
    · exact rowQ_pre m k c j (i + 1) q
/-- the first configuration -/
def c0 (S T : Nat) : Cfg := (S, List.replicate T false)
theorem c0_ok (h : Ok m k T S) : CfgOk m.nx.length T (c0 S T) := ⟨h.s, by simp [c0]⟩
def big (m : M) : Nat := m.nx.length * 16 + 1
/-- the reachable configurations -/
def reach (m : M) (k T S : Nat) : List Cfg := bfs m k (k + T) (big m) 0 [c0 S T]
/-- what holds in the search -/
structure Sea (m : M) (k T S : Nat) (a : Nat) (q : List Cfg) : Prop where
  good : Good m.nx.length T q
  le : a ≤ q.length
  pos : 0 < q.length
  res : bfs m k (k + T) (big m - a) a q = reach m k T S
theorem Sea.start (h : Ok m k T S) : Sea m k T S 0 [c0 S T] := ⟨Good.one (c0_ok h), Nat.zero_le _, by simp, rfl⟩
theorem Sea.fin {a : Nat} {q : List Cfg} (h : Sea m k T S a q) (ha : ¬ a < q.length) : q = reach m k T S := by
  rw [← h.res]
  generalize big m - a = f
  cases f with
  | zero => rfl
  | succ f => unfold bfs; rw [if_neg ha]
theorem Sea.lt (hm : Ok m k T S) {a : Nat} {q : List Cfg} (h : Sea m k T S a q) : q.length < big m := by
  have := h.good.len16 hm.t4
  unfold big; omega
theorem Sea.next (hm : Ok m k T S) {a : Nat} {q : List Cfg} (h : Sea m k T S a q) (ha : a < q.length) {c : Cfg} (hc : q[a]? = some c) : Sea m k T S (a + 1) (rowQ m k c (k + T) 0 q) := by
  have hl := h.lt hm
  have hcm : CfgOk m.nx.length T c := h.good.ok c (List.mem_of_getElem? hc)
  obtain ⟨t, ht⟩ := rowQ_pre m k c (k + T) 0 q
  refine ⟨Good.row hm hcm _ _ (by omega) h.good, by rw [ht, List.length_append]; omega, by rw [ht, List.length_append]; omega, ?_⟩
  rw [← h.res]
  obtain ⟨f, hf⟩ : ∃ f, big m - a = f + 1 := ⟨big m - a - 1, by omega⟩
  rw [hf, show big m - (a + 1) = f by omega]
  conv => rhs; unfold bfs
  rw [if_pos ha]
  have : q.getD a (0, []) = c := by rw [List.getD_eq_getElem?_getD, hc]; rfl
  rw [this]
theorem reach_good (h : Ok m k T S) : Good m.nx.length T (reach m k T S) := by
  have key : ∀ (f a : Nat) (q : List Cfg), Good m.nx.length T q → Good m.nx.length T (bfs m k (k + T) f a q) := by
    intro f
    induction f with
    | zero => intro a q hq; exact hq
    | succ f ih =>
      intro a q hq
      unfold bfs
      split
      · rename_i ha
        refine ih _ _ (Good.row h (hq.ok _ ?_) _ _ (by omega) hq)
        rw [List.getD_eq_getElem?_getD, List.getElem?_eq_getElem ha]; simp
      · exact hq
  exact key _ _ _ (Good.one (c0_ok h))
/-! ### which timers run -/
/-- does the timer x run in the state s, in one of the first configurations -/
def actv (q : List Cfg) (s x : Nat) : Bool := q.any fun c => decide (c.1 = s) && c.2.getD x false
theorem actv_snoc (q : List Cfg) (c : Cfg) (s x : Nat) : actv (q ++ [c]) s x = (actv q s x || (decide (c.1 = s) && c.2.getD x false)) := by
  unfold actv; rw [List.any_append]; simp
theorem actv_take {q : List Cfg} {a : Nat} {c : Cfg} (h : q[a]? = some c) (s x : Nat) : actv (q.take (a + 1)) s x = (actv (q.take a) s x || (decide (c.1 = s) && c.2.getD x false)) := by
  rw [List.take_add_one, h]
  exact actv_snoc _ _ _ _
/-- the table of the timers that run -/
def actT (q : List Cfg) (n T : Nat) : List (List Bool) := (List.range n).map fun s => (List.range T).map fun x => actv q s x
end
end Go.Proofs.Ytpcoddbkcelaoaa.Tm
