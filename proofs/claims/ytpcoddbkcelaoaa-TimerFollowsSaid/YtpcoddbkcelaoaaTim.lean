/- Plain law of machines with timers: validity; configurations; what a symbol does. -/
import Derived.Test.YtpcoddbkcelaoaaMea
namespace Go.Proofs.Ytpcoddbkcelaoaa.Tm
open Mea

structure M where
  I : Int
  T : Int
  S : Int
  nx : List (List Int)
  out : List (List Int)
  set : List (List (Int × Int))

/-- the error of a transition -/
def symE (n : Nat) (T t o : Int) (a b : Int) : Int :=
  if t < 0 ∨ (n : Int) ≤ t ∨ o < 0 ∨ 1048576 < o then 2 else if a < -1 ∨ T ≤ a ∨ b < 0 ∨ 1000 < b then 2 else if a = -1 ∧ b ≠ 0 then 1 else 0
def cellE (m : M) (s i : Nat) : Int := symE m.nx.length m.T ((m.nx.getD s []).getD i 0) ((m.out.getD s []).getD i 0) ((m.set.getD s []).getD i (0, 0)).1 ((m.set.getD s []).getD i (0, 0)).2
def rowE (m : M) (s : Nat) : Int :=
  if ((m.nx.getD s []).length : Int) = m.I + m.T ∧ ((m.out.getD s []).length : Int) = m.I + m.T ∧ ((m.set.getD s []).length : Int) = m.I + m.T then firstE (cellE m s) (m.I + m.T).toNat else 1
def validE (m : M) : Int :=
  if m.I < 1 ∨ 64 < m.I ∨ m.T < 0 ∨ 4 < m.T then 2 else if 64 < m.I + m.T then 11 else if m.nx.length = 0 then 19 else if 128 < m.nx.length then 11 else if m.S < 0 ∨ (m.nx.length : Int) ≤ m.S then 2
  else if m.out.length ≠ m.nx.length ∨ m.set.length ≠ m.nx.length then 1 else firstE (rowE m) m.nx.length

/-- what a transition of a valid machine is -/
structure OkC (n T : Nat) (t o a b : Int) : Prop where
  t0 : 0 ≤ t
  t1 : t < n
  o0 : 0 ≤ o
  o1 : o ≤ 1048576
  a0 : -1 ≤ a
  a1 : a < T
  b0 : 0 ≤ b
  b1 : b ≤ 1000
  ab : a = -1 → b = 0
theorem symE_ok {n T : Nat} {t o a b : Int} (h : symE n T t o a b = 0) : OkC n T t o a b := by
  unfold symE at h
  by_cases h1 : t < 0 ∨ (n : Int) ≤ t ∨ o < 0 ∨ 1048576 < o
  · rw [if_pos h1] at h; omega
  rw [if_neg h1] at h
  by_cases h2 : a < -1 ∨ (T : Int) ≤ a ∨ b < 0 ∨ 1000 < b
  · rw [if_pos h2] at h; omega
  rw [if_neg h2] at h
  by_cases h3 : a = -1 ∧ b ≠ 0
  · rw [if_pos h3] at h; omega
  exact ⟨by omega, by omega, by omega, by omega, by omega, by omega, by omega, by omega, by omega⟩
/-- what a valid machine is -/
structure Ok (m : M) (k T S : Nat) : Prop where
  I : m.I = k
  T' : m.T = T
  S' : m.S = S
  k1 : 1 ≤ k
  t4 : T ≤ 4
  k64 : k + T ≤ 64
  n0 : 0 < m.nx.length
  n128 : m.nx.length ≤ 128
  s : S < m.nx.length
  o : m.out.length = m.nx.length
  e : m.set.length = m.nx.length
  rowN : ∀ s, s < m.nx.length → (m.nx.getD s []).length = k + T
  rowO : ∀ s, s < m.nx.length → (m.out.getD s []).length = k + T
  rowS : ∀ s, s < m.nx.length → (m.set.getD s []).length = k + T
  cell : ∀ s i, s < m.nx.length → i < k + T → OkC m.nx.length T ((m.nx.getD s []).getD i 0) ((m.out.getD s []).getD i 0) ((m.set.getD s []).getD i (0, 0)).1 ((m.set.getD s []).getD i (0, 0)).2
theorem ok_of {m : M} (h : validE m = 0) : ∃ k T S : Nat, Ok m k T S := by
  unfold validE at h
  by_cases h1 : m.I < 1 ∨ 64 < m.I ∨ m.T < 0 ∨ 4 < m.T
  · rw [if_pos h1] at h; omega
  rw [if_neg h1] at h
  by_cases h1' : 64 < m.I + m.T
  · rw [if_pos h1'] at h; omega
  rw [if_neg h1'] at h
  by_cases h2 : m.nx.length = 0
  · rw [if_pos h2] at h; omega
  rw [if_neg h2] at h
  by_cases h3 : 128 < m.nx.length
  · rw [if_pos h3] at h; omega
  rw [if_neg h3] at h
  by_cases h4 : m.S < 0 ∨ (m.nx.length : Int) ≤ m.S
  · rw [if_pos h4] at h; omega
  rw [if_neg h4] at h
  by_cases h5 : m.out.length ≠ m.nx.length ∨ m.set.length ≠ m.nx.length
  · rw [if_pos h5] at h; omega
  rw [if_neg h5] at h
  have hr := firstE_of_zero h
  have hrow : ∀ s, s < m.nx.length → (((m.nx.getD s []).length : Int) = m.I + m.T ∧ ((m.out.getD s []).length : Int) = m.I + m.T ∧ ((m.set.getD s []).length : Int) = m.I + m.T) ∧ ∀ i, i < (m.I + m.T).toNat → cellE m s i = 0 := by
    intro s hs
    have e := hr s hs
    unfold rowE at e
    by_cases hl : ((m.nx.getD s []).length : Int) = m.I + m.T ∧ ((m.out.getD s []).length : Int) = m.I + m.T ∧ ((m.set.getD s []).length : Int) = m.I + m.T
    · rw [if_pos hl] at e
      exact ⟨hl, fun i hi => firstE_of_zero e i hi⟩
    · rw [if_neg hl] at e; omega
  obtain ⟨k, hk⟩ : ∃ k : Nat, m.I = k := ⟨m.I.toNat, by omega⟩
  obtain ⟨T, hT⟩ : ∃ k : Nat, m.T = k := ⟨m.T.toNat, by omega⟩
  obtain ⟨S, hS⟩ : ∃ k : Nat, m.S = k := ⟨m.S.toNat, by omega⟩
  refine ⟨k, T, S, hk, hT, hS, by omega, by omega, by omega, by omega, by omega, by omega, by omega, by omega, fun s hs => ?_, fun s hs => ?_, fun s hs => ?_, fun s i hs hi => ?_⟩
  · have := (hrow s hs).1.1; omega
  · have := (hrow s hs).1.2.1; omega
  · have := (hrow s hs).1.2.2; omega
  · have := (hrow s hs).2 i (by omega)
    unfold cellE at this
    rw [hT] at this
    exact symE_ok this
theorem Ok.valid {m : M} {k T S : Nat} (h : Ok m k T S) : validE m = 0 := by
  have a1 := h.I
  have a2 := h.T'
  have a3 := h.S'
  have a4 := h.k1
  have a5 := h.t4
  have a6 := h.k64
  have a7 := h.n0
  have a8 := h.n128
  have a9 := h.s
  have a10 := h.o
  have a11 := h.e
  unfold validE
  rw [if_neg (by omega), if_neg (by omega), if_neg (by omega), if_neg (by omega), if_neg (by omega), if_neg (by omega)]
  refine firstE_zero fun s hs => ?_
  unfold rowE
  have b1 := h.rowN s hs
  have b2 := h.rowO s hs
  have b3 := h.rowS s hs
  rw [if_pos (by omega)]
  refine firstE_zero fun i hi => ?_
  have c := h.cell s i hs (by omega)
  have c0 := c.t0; have c1 := c.t1; have c2 := c.o0; have c3 := c.o1; have c4 := c.a0; have c5 := c.a1; have c6 := c.b0; have c7 := c.b1; have c8 := c.ab
  unfold cellE symE
  rw [if_neg (by omega), if_neg (by omega), if_neg (by omega)]

/-! ### configurations -/
abbrev Cfg := Nat × List Bool
def nxA (m : M) (s i : Nat) : Nat := ((m.nx.getD s []).getD i 0).toNat
def outA (m : M) (s i : Nat) : Int := (m.out.getD s []).getD i 0
def setA (m : M) (s i : Nat) : Int × Int := (m.set.getD s []).getD i (0, 0)
/-- is a symbol possible -/
def poss (k : Nat) (c : Cfg) (i : Nat) : Bool := decide (i < k) || c.2.getD (i - k) false
def run1 (k : Nat) (c : Cfg) (i : Nat) : List Bool := if i < k then c.2 else c.2.set (i - k) false
/-- does the setting do anything -/
def acts (m : M) (k : Nat) (c : Cfg) (i : Nat) : Bool := decide (0 ≤ (setA m c.1 i).1) && (decide ((setA m c.1 i).2 ≠ 0) || (run1 k c i).getD (setA m c.1 i).1.toNat false)
/-- the configuration after a symbol -/
def aftC (m : M) (k : Nat) (c : Cfg) (i : Nat) : Cfg := (nxA m c.1 i, if acts m k c i then (run1 k c i).set (setA m c.1 i).1.toNat (decide (0 < (setA m c.1 i).2)) else run1 k c i)
/-- the code of what the setting does -/
def aftN (m : M) (k : Nat) (c : Cfg) (i : Nat) : Int := if acts m k c i then 1 + (setA m c.1 i).1 * 1001 + (setA m c.1 i).2 else 0
/-- a configuration of a machine -/
def CfgOk (n T : Nat) (c : Cfg) : Prop := c.1 < n ∧ c.2.length = T
section
variable {m : M} {k T S : Nat}
theorem run1_len (k : Nat) (c : Cfg) (i : Nat) : (run1 k c i).length = c.2.length := by unfold run1; split <;> simp
theorem Ok.nx1 (h : Ok m k T S) {s i : Nat} (hs : s < m.nx.length) (hi : i < k + T) : nxA m s i < m.nx.length ∧ ((m.nx.getD s []).getD i 0) = (nxA m s i : Int) := by
  have c := h.cell s i hs hi
  have := c.t0; have := c.t1
  unfold nxA; omega
theorem aft_ok (h : Ok m k T S) {c : Cfg} {i : Nat} (hc : CfgOk m.nx.length T c) (hi : i < k + T) : CfgOk m.nx.length T (aftC m k c i) := by
  refine ⟨(h.nx1 hc.1 hi).1, ?_⟩
  show (if acts m k c i then _ else _ : List Bool).length = T
  split
  · rw [List.length_set, run1_len]; exact hc.2
  · rw [run1_len]; exact hc.2
theorem aftN_bd (h : Ok m k T S) {c : Cfg} {i : Nat} (hc : CfgOk m.nx.length T c) (hi : i < k + T) : 0 ≤ aftN m k c i ∧ aftN m k c i ≤ T * 1001 := by
  unfold aftN
  split
  · rename_i ha
    have c' := h.cell c.1 i hc.1 hi
    have q0 := c'.a1; have q1 := c'.b0; have q2 := c'.b1
    have ha' : 0 ≤ (setA m c.1 i).1 := by unfold acts at ha; simp at ha; exact ha.1
    unfold setA at *
    omega
  · omega
end
/-! ### how many configurations there are -/
def encB : List Bool → Nat
  | [] => 0
  | b :: r => 2 * encB r + b.toNat
theorem encB_lt : ∀ r : List Bool, encB r < 2 ^ r.length
  | [] => by simp [encB]
  | b :: r => by have := encB_lt r; cases b <;> simp [encB, Nat.pow_succ] <;> omega
theorem encB_inj : ∀ {r t : List Bool}, r.length = t.length → encB r = encB t → r = t
  | [], [], _, _ => rfl
  | [], _ :: _, h, _ => by simp at h
  | _ :: _, [], h, _ => by simp at h
  | b :: r, d :: t, h, e => by
    simp only [encB] at e
    have h' : r.length = t.length := by simpa using h
    have : b.toNat = d.toNat ∧ encB r = encB t := by cases b <;> cases d <;> simp at e ⊢ <;> omega
    obtain ⟨e1, e2⟩ := this
    rw [encB_inj h' e2]
    congr 1
    cases b <;> cases d <;> simp_all
def code (T : Nat) (c : Cfg) : Nat := c.1 * 2 ^ T + encB c.2
theorem code_lt {n T : Nat} {c : Cfg} (h : CfgOk n T c) : code T c < n * 2 ^ T := by
  have h1 := encB_lt c.2
  rw [h.2] at h1
  unfold code
  have : (c.1 + 1) * 2 ^ T ≤ n * 2 ^ T := Nat.mul_le_mul_right _ h.1
  rw [Nat.add_mul] at this
  omega
theorem code_inj {n T : Nat} {c d : Cfg} (h : CfgOk n T c) (g : CfgOk n T d) (e : code T c = code T d) : c = d := by
  have h1 := encB_lt c.2
  have h2 := encB_lt d.2
  rw [h.2] at h1
  rw [g.2] at h2
  unfold code at e
  have e1 : c.1 = d.1 := by
    have q1 : (c.1 * 2 ^ T + encB c.2) / 2 ^ T = c.1 := by rw [Nat.mul_comm, Nat.mul_add_div (Nat.two_pow_pos T), Nat.div_eq_of_lt h1]; simp
    have q2 : (d.1 * 2 ^ T + encB d.2) / 2 ^ T = d.1 := by rw [Nat.mul_comm, Nat.mul_add_div (Nat.two_pow_pos T), Nat.div_eq_of_lt h2]; simp
    rw [← q1, ← q2, e]
  have e2 : c.2 = d.2 := encB_inj (by rw [h.2, g.2]) (by rw [e1] at e; omega)
  exact Prod.ext e1 e2
theorem nodup_lt : ∀ (N : Nat) (l : List Nat), l.Nodup → (∀ x ∈ l, x < N) → l.length ≤ N
  | 0, l, _, h => by
    cases l with
    | nil => simp
    | cons x l => exact absurd (h x (by simp)) (by omega)
  | N + 1, l, hd, h => by
    have h1 := nodup_lt N (l.erase N) (hd.erase N) (fun x hx => by
      have hx' := List.mem_of_mem_erase hx
      have := h x hx'
      have hne : x ≠ N := fun e => by subst e; exact (List.Nodup.not_mem_erase hd) hx
      omega)
    have h2 := List.le_length_erase (l := l) (a := N)
    omega
/-- a search's list -/
structure Good (n T : Nat) (q : List Cfg) : Prop where
  nd : q.Nodup
  ok : ∀ c ∈ q, CfgOk n T c
theorem Good.len {n T : Nat} {q : List Cfg} (h : Good n T q) : q.length ≤ n * 2 ^ T := by
  have h1 := nodup_lt (n * 2 ^ T) (q.map (code T)) (by
    have : q.Pairwise (fun a b => code T a ≠ code T b) := by
      refine List.Pairwise.imp_of_mem ?_ h.nd
      intro a b ha hb hne e
      exact hne (code_inj (h.ok a ha) (h.ok b hb) e)
    exact List.pairwise_map.2 this) (fun x hx => by
      obtain ⟨c, hc, rfl⟩ := List.mem_map.1 hx
      exact code_lt (h.ok c hc))
  simpa using h1
theorem Good.len16 {n T : Nat} {q : List Cfg} (h : Good n T q) (ht : T ≤ 4) : q.length ≤ n * 16 := by
  have := h.len
  have h2 : n * 2 ^ T ≤ n * 2 ^ 4 := Nat.mul_le_mul_left _ (Nat.pow_le_pow_right (by omega) ht)
  omega
theorem Good.snoc {n T : Nat} {q : List Cfg} (h : Good n T q) {c : Cfg} (hc : CfgOk n T c) (hn : c ∉ q) : Good n T (q ++ [c]) := by
  refine ⟨?_, fun d hd => ?_⟩
  · rw [List.nodup_append]
    exact ⟨h.nd, by simp, fun a ha b hb => by simp at hb; subst hb; rintro rfl; exact hn ha⟩
  · rcases List.mem_append.1 hd with hd | hd
    · exact h.ok d hd
    · simp at hd; subst hd; exact hc
theorem Good.one {n T : Nat} {c : Cfg} (hc : CfgOk n T c) : Good n T [c] := ⟨by simp, fun d hd => by simp at hd; subst hd; exact hc⟩
end Go.Proofs.Ytpcoddbkcelaoaa.Tm
