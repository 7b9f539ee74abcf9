/- Plain law of a search over states that numbers them: rows of numbers and outputs, limits, where it ends. -/
import Derived.Test.YtaoebjabdejpoaaRg2
namespace Go.Proofs.Ytaoebjabdejpoaa.Rg
open Mea

theorem getD_snoc_lt {α : Type} (l : List α) (x d : α) {i : Nat} (h : i < l.length) : (l ++ [x]).getD i d = l.getD i d := by
  rw [List.getD_eq_getElem?_getD, List.getD_eq_getElem?_getD, List.getElem?_append_left h]
theorem getD_snoc_eq {α : Type} (l : List α) (x d : α) : (l ++ [x]).getD l.length d = x := by
  rw [List.getD_eq_getElem?_getD, List.getElem?_append_right (Nat.le_refl _)]; simp
section
variable {α : Type}
/-- a search: the number of symbols, the state behind a symbol, its output, what holds of states -/
structure Srch (α : Type) where
  K : Nat
  nx : α → Nat → α
  o : α → Nat → Int
  P : α → Prop
structure Srch.Ok (s : Srch α) : Prop where
  p : ∀ c i, s.P c → i < s.K → s.P (s.nx c i)
  o : ∀ c i, s.P c → i < s.K → 0 ≤ s.o c i
variable {s : Srch α}
structure Good (s : Srch α) (q : List α) : Prop where
  nd : q.Nodup
  ok : ∀ c ∈ q, s.P c
theorem Good.one {c : α} (h : s.P c) : Good s [c] := ⟨by simp, fun d hd => by simp at hd; subst hd; exact h⟩
theorem Good.snoc {q : List α} (h : Good s q) {c : α} (hc : s.P c) (hn : c ∉ q) : Good s (q ++ [c]) := by
  refine ⟨?_, fun d hd => ?_⟩
  · rw [List.nodup_append]
    exact ⟨h.nd, by simp, fun a ha b hb => by simp at hb; subst hb; rintro rfl; exact hn ha⟩
  · rcases List.mem_append.1 hd with h1 | h1
    · exact h.ok d h1
    · simp at h1; subst h1; exact hc
/-- what a row says -/
structure RowOk (s : Srch α) (q : List α) (c : α) (ns os : List Int) : Prop where
  len : os.length = ns.length
  all : ∀ i, i < ns.length → 0 ≤ ns.getD i 0 ∧ ns.getD i 0 < q.length ∧ 0 ≤ os.getD i 0 ∧ os.getD i 0 ≤ 1048576
  hit : ∀ i, i < ns.length → q[(ns.getD i 0).toNat]? = some (s.nx c i) ∧ os.getD i 0 = s.o c i
theorem RowOk.grow {q : List α} {c : α} {ns os : List Int} (h : RowOk s q c ns os) (t : List α) : RowOk s (q ++ t) c ns os := by
  refine ⟨h.len, fun i hi => ?_, fun i hi => ?_⟩
  · have := h.all i hi; rw [List.length_append]; omega
  · obtain ⟨h1, h2⟩ := h.hit i hi
    have := h.all i hi
    exact ⟨by rw [List.getElem?_append_left (by omega)]; exact h1, h2⟩
theorem RowOk.snoc {q : List α} {c : α} {ns os : List Int} (h : RowOk s q c ns os) {n o : Int} (hn : 0 ≤ n ∧ n < q.length) (ho : 0 ≤ o ∧ o ≤ 1048576)
    (hp : q[n.toNat]? = some (s.nx c ns.length) ∧ o = s.o c ns.length) : RowOk s q c (ns ++ [n]) (os ++ [o]) := by
  have hl := h.len
  have g1 : (os ++ [o]).getD ns.length 0 = o := by rw [← hl]; exact getD_snoc_eq _ _ _
  refine ⟨by simp [hl], fun i hi => ?_, fun i hi => ?_⟩
  · by_cases e : i = ns.length
    · subst e; rw [getD_snoc_eq, g1]; omega
    · have hi' : i < ns.length := by simp at hi; omega
      rw [getD_snoc_lt _ _ _ hi', getD_snoc_lt _ _ _ (by omega)]
      exact h.all i hi'
  · by_cases e : i = ns.length
    · subst e; rw [getD_snoc_eq, g1]; exact hp
    · have hi' : i < ns.length := by simp at hi; omega
      rw [getD_snoc_lt _ _ _ hi', getD_snoc_lt _ _ _ (by omega)]
      exact h.hit i hi'
end
section
variable {α : Type} [DecidableEq α]
def addC (q : List α) (c : α) : List α := if c ∈ q then q else q ++ [c]
theorem addC_in {q : List α} {c : α} (h : c ∈ q) : addC q c = q := by unfold addC; rw [if_pos h]
theorem addC_new {q : List α} {c : α} (h : c ∉ q) : addC q c = q ++ [c] := by unfold addC; rw [if_neg h]
variable {s : Srch α}
def uRow (s : Srch α) (c : α) : Nat → Nat → List α → List Int → List Int → Int × List α × List Int × List Int
  | 0, _, q, ns, os => (0, q, ns, os)
  | j + 1, i, q, ns, os =>
    if 1048576 < s.o c i then (2, [], [], [])
    else if idx q (s.nx c i) = q.length ∧ 128 ≤ q.length then (11, [], [], [])
    else uRow s c j (i + 1) (addC q (s.nx c i)) (ns ++ [(idx q (s.nx c i) : Int)]) (os ++ [s.o c i])
/-- what holds at the symbol i of a row -/
structure URow (s : Srch α) (c : α) (a : Nat) (R : Int × List α × List Int × List Int) (q0 : List α) (i : Nat) (q : List α) (ns os : List Int) : Prop where
  good : Good s q
  pre : ∃ t, q = q0 ++ t
  at_ : q[a]? = some c
  q128 : q.length ≤ 128
  ln : ns.length = i
  row : RowOk s q c ns os
  res : uRow s c (s.K - i) i q ns os = R
section
variable {c : α} {a : Nat} {R : Int × List α × List Int × List Int} {q0 : List α} {i : Nat} {q : List α} {ns os : List Int}
theorem URow.lim (u : URow s c a R q0 i q ns os) (hi : i < s.K) (ho : 1048576 < s.o c i) : R = (2, [], [], []) := by
  rw [← u.res, show s.K - i = (s.K - (i + 1)) + 1 by omega]
  unfold uRow
  rw [if_pos ho]
theorem URow.full (u : URow s c a R q0 i q ns os) (hi : i < s.K) (ho : ¬ 1048576 < s.o c i) (hm : s.nx c i ∉ q) (hq : 128 ≤ q.length) : R = (11, [], [], []) := by
  rw [← u.res, show s.K - i = (s.K - (i + 1)) + 1 by omega]
  unfold uRow
  rw [if_neg ho, if_pos ⟨idx_eq.2 hm, hq⟩]
theorem URow.old (h : s.Ok) (hc : s.P c) (u : URow s c a R q0 i q ns os) (hi : i < s.K) (ho : ¬ 1048576 < s.o c i) (hm : s.nx c i ∈ q) :
    URow s c a R q0 (i + 1) q (ns ++ [(idx q (s.nx c i) : Int)]) (os ++ [s.o c i]) := by
  have hl := idx_lt.2 hm
  have ho1 := h.o c i hc hi
  refine ⟨u.good, u.pre, u.at_, u.q128, by simp [u.ln], u.row.snoc ⟨by omega, by omega⟩ ⟨by omega, by omega⟩ ?_, ?_⟩
  · rw [u.ln, Int.toNat_natCast]; exact ⟨idx_get hm, rfl⟩
  · rw [← u.res, show s.K - i = (s.K - (i + 1)) + 1 by omega]
    conv => rhs; unfold uRow
    rw [if_neg ho, if_neg (by omega), addC_in hm]
theorem URow.new (h : s.Ok) (hc : s.P c) (u : URow s c a R q0 i q ns os) (hi : i < s.K) (ho : ¬ 1048576 < s.o c i) (hm : s.nx c i ∉ q) (hq : ¬ 128 ≤ q.length) :
    URow s c a R q0 (i + 1) (q ++ [s.nx c i]) (ns ++ [(q.length : Int)]) (os ++ [s.o c i]) := by
  have ho1 := h.o c i hc hi
  obtain ⟨t, ht⟩ := u.pre
  have ha : a < q.length := (List.getElem?_eq_some_iff.1 u.at_).1
  refine ⟨u.good.snoc (h.p c i hc hi) hm, ⟨t ++ [s.nx c i], by rw [ht]; simp⟩, by rw [List.getElem?_append_left ha]; exact u.at_, by simp; omega, by simp [u.ln], (u.row.grow _).snoc ⟨by omega, by simp; omega⟩ ⟨by omega, by omega⟩ ?_, ?_⟩
  · rw [u.ln, Int.toNat_natCast]; exact ⟨by rw [List.getElem?_append_right (Nat.le_refl _)]; simp, rfl⟩
  · rw [← u.res, show s.K - i = (s.K - (i + 1)) + 1 by omega]
    conv => rhs; unfold uRow
    rw [if_neg ho, if_neg (by omega), addC_new hm, idx_eq.2 hm]
theorem URow.fin (u : URow s c a R q0 i q ns os) (hi : ¬ i < s.K) : R = (0, q, ns, os) := by
  rw [← u.res, show s.K - i = 0 by omega]; rfl
end
/-- where a row ends -/
theorem URow.run (h : s.Ok) {c : α} {a : Nat} {R : Int × List α × List Int × List Int} {q0 : List α} (hc : s.P c) : ∀ (j i : Nat) (q : List α) (ns os : List Int), s.K - i = j → i ≤ s.K → URow s c a R q0 i q ns os →
    (∃ e, e ≠ 0 ∧ R = (e, [], [], [])) ∨ ∃ q' ns' os', URow s c a R q0 s.K q' ns' os'
  | 0, i, q, ns, os, hj, hi, u => by
    obtain rfl : i = s.K := by omega
    exact .inr ⟨q, ns, os, u⟩
  | j + 1, i, q, ns, os, hj, hi, u => by
    have hlt : i < s.K := by omega
    by_cases ho : 1048576 < s.o c i
    · exact .inl ⟨2, by omega, u.lim hlt ho⟩
    · by_cases hm : s.nx c i ∈ q
      · exact URow.run h hc j (i + 1) _ _ _ (by omega) (by omega) (u.old h hc hlt ho hm)
      · by_cases hq : 128 ≤ q.length
        · exact .inl ⟨11, by omega, u.full hlt ho hm hq⟩
        · exact URow.run h hc j (i + 1) _ _ _ (by omega) (by omega) (u.new h hc hlt ho hm hq)
def uAll [Inhabited α] (s : Srch α) : Nat → Nat → List α → List (List Int) → List (List Int) → Int × List (List Int) × List (List Int)
  | 0, _, _, nx, out => (0, nx, out)
  | f + 1, a, q, nx, out =>
    if a < q.length then
      if (uRow s (q.getD a default) s.K 0 q [] []).1 ≠ 0 then ((uRow s (q.getD a default) s.K 0 q [] []).1, [], [])
      else uAll s f (a + 1) (uRow s (q.getD a default) s.K 0 q [] []).2.1 (nx ++ [(uRow s (q.getD a default) s.K 0 q [] []).2.2.1]) (out ++ [(uRow s (q.getD a default) s.K 0 q [] []).2.2.2])
    else (0, nx, out)
/-- the tables of the search from a state on, or its error -/
def sea [Inhabited α] (s : Srch α) (c : α) : Int × List (List Int) × List (List Int) := uAll s 129 0 [c] [] []
variable [Inhabited α]
/-- what holds at the state a -/
structure USea (s : Srch α) (c0 : α) (R : Int × List (List Int) × List (List Int)) (a : Nat) (q : List α) (nx out : List (List Int)) : Prop where
  good : Good s q
  le : a ≤ q.length
  q128 : q.length ≤ 128
  first : q[0]? = some c0
  ln : nx.length = a
  lo : out.length = a
  rows : ∀ t c, t < a → q[t]? = some c → (nx.getD t []).length = s.K ∧ RowOk s q c (nx.getD t []) (out.getD t [])
  res : uAll s (129 - a) a q nx out = R
theorem USea.start {c : α} (h : s.P c) : USea s c (sea s c) 0 [c] [] [] :=
  ⟨Good.one h, Nat.zero_le _, by simp, rfl, rfl, rfl, fun s c hs => by omega, rfl⟩
section
variable {c0 : α} {R : Int × List (List Int) × List (List Int)} {a : Nat} {q : List α} {nx out : List (List Int)}
theorem USea.fin (h : USea s c0 R a q nx out) (ha : ¬ a < q.length) : R = (0, nx, out) := by
  rw [← h.res]
  generalize 129 - a = f
  cases f with
  | zero => rfl
  | succ f => unfold uAll; rw [if_neg ha]
theorem USea.begin (h : USea s c0 R a q nx out) {c : α} (hc : q[a]? = some c) : URow s c a (uRow s c s.K 0 q [] []) q 0 q [] [] :=
  ⟨h.good, ⟨[], by simp⟩, hc, h.q128, rfl, ⟨rfl, fun i hi => by simp at hi, fun i hi => by simp at hi⟩, rfl⟩
theorem USea.err (h : USea s c0 R a q nx out) (ha : a < q.length) {c : α} (hc : q[a]? = some c) {e : Int} (he : e ≠ 0) (hr : uRow s c s.K 0 q [] [] = (e, [], [], [])) : R = (e, [], []) := by
  have hl := h.q128
  rw [← h.res]
  obtain ⟨f, hf⟩ : ∃ f, 129 - a = f + 1 := ⟨129 - a - 1, by omega⟩
  rw [hf]
  unfold uAll
  have : q.getD a default = c := by rw [List.getD_eq_getElem?_getD, hc]; rfl
  rw [if_pos ha, this, hr, if_pos he]
theorem USea.next (h : USea s c0 R a q nx out) (ha : a < q.length) {c : α} (hc : q[a]? = some c) {q' : List α} {ns os : List Int}
    (u : URow s c a (uRow s c s.K 0 q [] []) q s.K q' ns os) : USea s c0 R (a + 1) q' (nx ++ [ns]) (out ++ [os]) := by
  have hl := h.q128
  obtain ⟨t, ht⟩ := u.pre
  have hr := u.fin (by omega)
  refine ⟨u.good, by rw [ht, List.length_append]; omega, u.q128, ?_, by simp [h.ln], by simp [h.lo], fun s' d hs hd => ?_, ?_⟩
  · rw [ht, List.getElem?_append_left (by omega)]; exact h.first
  · by_cases e : s' = a
    · subst e
      have : d = c := by have := hd.symm.trans u.at_; simpa using this
      subst this
      have e1 : (nx ++ [ns]).getD s' [] = ns := by rw [← h.ln]; exact getD_snoc_eq _ _ _
      have e2 : (out ++ [os]).getD s' [] = os := by rw [← h.lo]; exact getD_snoc_eq _ _ _
      rw [e1, e2]
      exact ⟨u.ln, u.row⟩
    · have hs' : s' < a := by omega
      rw [getD_snoc_lt _ _ _ (by rw [h.ln]; exact hs'), getD_snoc_lt _ _ _ (by rw [h.lo]; exact hs')]
      rw [ht, List.getElem?_append_left (by omega)] at hd
      obtain ⟨r1, r2⟩ := h.rows s' d hs' hd
      exact ⟨r1, by rw [ht]; exact r2.grow t⟩
  · rw [← h.res]
    obtain ⟨f, hf⟩ : ∃ f, 129 - a = f + 1 := ⟨129 - a - 1, by omega⟩
    rw [hf, show 129 - (a + 1) = f by omega]
    conv => rhs; unfold uAll
    have : q.getD a default = c := by rw [List.getD_eq_getElem?_getD, hc]; rfl
    rw [if_pos ha, this, hr, if_neg (by simp)]
/-- the machine that the search returns is valid -/
theorem USea.valid (hK : 1 ≤ s.K) (hK2 : s.K ≤ 64) (h : USea s c0 R a q nx out) (ha : ¬ a < q.length) : Mea.Ok s.K 0 nx out := by
  have hq : q.length = nx.length := by have := h.le; have := h.ln; omega
  have hpos : 0 < q.length := (List.getElem?_eq_some_iff.1 h.first).1
  have row : ∀ t, t < nx.length → (nx.getD t []).length = s.K ∧ ∃ c, RowOk s q c (nx.getD t []) (out.getD t []) := fun t hs => by
    have hs' : t < q.length := by omega
    have := h.rows t q[t] (by have := h.ln; omega) (List.getElem?_eq_getElem hs')
    exact ⟨this.1, _, this.2⟩
  refine ⟨hK, hK2, by omega, by have := h.q128; omega, by omega, by have := h.ln; have := h.lo; omega, fun t hs => (row t hs).1, fun t hs => ?_, fun t i hs hi => ?_⟩
  · obtain ⟨r1, c, r2⟩ := row t hs
    rw [r2.len]; exact r1
  · obtain ⟨r1, c, r2⟩ := row t hs
    have := r2.all i (by omega)
    exact ⟨this.1, by omega, this.2.2.1, this.2.2.2⟩
end
theorem USea.run (hm : s.Ok) {c0 : α} {R : Int × List (List Int) × List (List Int)} : ∀ (j a : Nat) (q : List α) (nx out : List (List Int)), 129 - a ≤ j → USea s c0 R a q nx out →
    R.1 ≠ 0 ∨ ∃ a' q', USea s c0 R a' q' R.2.1 R.2.2 ∧ ¬ a' < q'.length
  | j, a, q, nx, out, hj, h => by
    by_cases ha : a < q.length
    · have hq := h.q128
      obtain ⟨c, hc⟩ : ∃ c, q[a]? = some c := ⟨_, List.getElem?_eq_getElem ha⟩
      have hcm : s.P c := h.good.ok c (List.mem_of_getElem? hc)
      rcases URow.run hm hcm (s.K - 0) 0 _ _ _ rfl (Nat.zero_le _) (h.begin hc) with ⟨e, he, hr⟩ | ⟨q', ns, os, u⟩
      · left
        rw [h.err ha hc he hr]
        exact he
      · cases j with
        | zero => omega
        | succ j => exact USea.run hm j (a + 1) _ _ _ (by omega) (h.next ha hc u)
    · right
      have hR := h.fin ha
      refine ⟨a, q, ?_, ha⟩
      have e1 : R.2.1 = nx := by rw [hR]
      have e2 : R.2.2 = out := by rw [hR]
      rw [e1, e2]; exact h
theorem sea_end (hm : s.Ok) {c : α} (hc : s.P c) {nx out : List (List Int)} (h : sea s c = (0, nx, out)) : ∃ a q, USea s c (sea s c) a q nx out ∧ ¬ a < q.length := by
  rcases USea.run hm 129 0 _ _ _ (by omega) (USea.start hc) with h1 | ⟨a, q, h1, h2⟩
  · rw [h] at h1; exact absurd rfl h1
  · have e1 : (sea s c).2.1 = nx := by rw [h]
    have e2 : (sea s c).2.2 = out := by rw [h]
    rw [e1, e2] at h1
    exact ⟨a, q, h1, h2⟩
end
end Go.Proofs.Ytaoebjabdejpoaa.Rg
