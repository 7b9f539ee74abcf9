/- Plain law of the machine without time. -/
import Derived.Test.YtpcoddbkcelaoaaTim2
namespace Go.Proofs.Ytpcoddbkcelaoaa.Tm
open Mea

/-- the output of a symbol that is possible -/
def uO (m : M) (k T : Nat) (c : Cfg) (i : Nat) : Int := 1 + outA m c.1 i * (1 + T * 1001) + aftN m k c i
/-- symbols i .. i + j - 1 of the configuration c, whose number is a -/
def uRow (m : M) (k T : Nat) (c : Cfg) (a : Nat) : Nat → Nat → List Cfg → List Int → List Int → Int × List Cfg × List Int × List Int
  | 0, _, q, ns, os => (0, q, ns, os)
  | j + 1, i, q, ns, os =>
    if poss k c i = true then
      if 1048576 < uO m k T c i then (2, [], [], [])
      else if idx q (aftC m k c i) = q.length ∧ 128 ≤ q.length then (11, [], [], [])
      else uRow m k T c a j (i + 1) (addC q (aftC m k c i)) (ns ++ [(idx q (aftC m k c i) : Int)]) (os ++ [uO m k T c i])
    else uRow m k T c a j (i + 1) q (ns ++ [(a : Int)]) (os ++ [0])
def uAll (m : M) (k T : Nat) : Nat → Nat → List Cfg → List (List Int) → List (List Int) → Int × List (List Int) × List (List Int)
  | 0, _, _, nx, out => (0, nx, out)
  | f + 1, a, q, nx, out =>
    if a < q.length then
      if (uRow m k T (q.getD a (0, [])) a (k + T) 0 q [] []).1 ≠ 0 then ((uRow m k T (q.getD a (0, [])) a (k + T) 0 q [] []).1, [], [])
      else uAll m k T f (a + 1) (uRow m k T (q.getD a (0, [])) a (k + T) 0 q [] []).2.1 (nx ++ [(uRow m k T (q.getD a (0, [])) a (k + T) 0 q [] []).2.2.1]) (out ++ [(uRow m k T (q.getD a (0, [])) a (k + T) 0 q [] []).2.2.2])
    else (0, nx, out)
/-- the machine without time: its error and its tables -/
def unt (m : M) (k T S : Nat) : Int × List (List Int) × List (List Int) := uAll m k T (big m) 0 [c0 S T] [] []
/-- what a row says -/
structure RowOk (m : M) (k T : Nat) (q : List Cfg) (c : Cfg) (ns os : List Int) : Prop where
  len : os.length = ns.length
  all : ∀ i, i < ns.length → 0 ≤ ns.getD i 0 ∧ ns.getD i 0 < q.length ∧ 0 ≤ os.getD i 0 ∧ os.getD i 0 ≤ 1048576
  hit : ∀ i, i < ns.length → poss k c i = true → q[(ns.getD i 0).toNat]? = some (aftC m k c i) ∧ os.getD i 0 = uO m k T c i
theorem RowOk.grow {m : M} {k T : Nat} {q : List Cfg} {c : Cfg} {ns os : List Int} (h : RowOk m k T q c ns os) (t : List Cfg) : RowOk m k T (q ++ t) c ns os := by
  refine ⟨h.len, fun i hi => ?_, fun i hi hp => ?_⟩
  · have := h.all i hi; rw [List.length_append]; omega
  · obtain ⟨h1, h2⟩ := h.hit i hi hp
    have := h.all i hi
    exact ⟨by rw [List.getElem?_append_left (by omega)]; exact h1, h2⟩
theorem getD_snoc_lt {α : Type} (l : List α) (x d : α) {i : Nat} (h : i < l.length) : (l ++ [x]).getD i d = l.getD i d := by
  rw [List.getD_eq_getElem?_getD, List.getD_eq_getElem?_getD, List.getElem?_append_left h]
theorem getD_snoc_eq {α : Type} (l : List α) (x d : α) : (l ++ [x]).getD l.length d = x := by
  rw [List.getD_eq_getElem?_getD, List.getElem?_append_right (Nat.le_refl _)]; simp
theorem RowOk.snoc {m : M} {k T : Nat} {q : List Cfg} {c : Cfg} {ns os : List Int} (h : RowOk m k T q c ns os) {n o : Int} (hn : 0 ≤ n ∧ n < q.length) (ho : 0 ≤ o ∧ o ≤ 1048576)
    (hp : poss k c ns.length = true → q[n.toNat]? = some (aftC m k c ns.length) ∧ o = uO m k T c ns.length) : RowOk m k T q c (ns ++ [n]) (os ++ [o]) := by
  have hl := h.len
  have g1 : (os ++ [o]).getD ns.length 0 = o := by rw [← hl]; exact getD_snoc_eq _ _ _
  refine ⟨by simp [hl], fun i hi => ?_, fun i hi hq => ?_⟩
  · by_cases e : i = ns.length
    · subst e; rw [getD_snoc_eq, g1]; omega
    · have hi' : i < ns.length := by simp at hi; omega
      rw [getD_snoc_lt _ _ _ hi', getD_snoc_lt _ _ _ (by omega)]
      exact h.all i hi'
  · by_cases e : i = ns.length
    · subst e; rw [getD_snoc_eq, g1]; exact hp hq
    · have hi' : i < ns.length := by simp at hi; omega
      rw [getD_snoc_lt _ _ _ hi', getD_snoc_lt _ _ _ (by omega)]
      exact h.hit i hi' hq
section
variable {m : M} {k T S : Nat}
theorem uO_0 (h : Ok m k T S) {c : Cfg} {i : Nat} (hc : CfgOk m.nx.length T c) (hi : i < k + T) : 1 ≤ uO m k T c i ∧ uO m k T c i ≤ 1 + 1048576 * 4005 + 4004 := by
  have h1 := aftN_bd h hc hi
  have h2 := (h.cell c.1 i hc.1 hi).o0
  have h3 := (h.cell c.1 i hc.1 hi).o1
  have ht := h.t4
  unfold uO outA
  generalize ((m.out.getD c.1 []).getD i 0) = x at *
  have h4 : 0 ≤ x * (1 + T * 1001) := Int.mul_nonneg h2 (by omega)
  have h5 : x * (1 + T * 1001) ≤ 1048576 * 4005 := Int.le_trans (Int.mul_le_mul_of_nonneg_right h3 (by omega)) (Int.mul_le_mul_of_nonneg_left (by omega) (by omega))
  omega
/-- what holds at the symbol i of a row -/
structure URow (m : M) (k T : Nat) (c : Cfg) (a : Nat) (R : Int × List Cfg × List Int × List Int) (q0 : List Cfg) (i : Nat) (q : List Cfg) (ns os : List Int) : Prop where
  good : Good m.nx.length T q
  pre : ∃ t, q = q0 ++ t
  at_ : q[a]? = some c
  q128 : q.length ≤ 128
  ln : ns.length = i
  row : RowOk m k T q c ns os
  res : uRow m k T c a (k + T - i) i q ns os = R
theorem URow.lim {c : Cfg} {a : Nat} {R : Int × List Cfg × List Int × List Int} {q0 : List Cfg} {i : Nat} {q : List Cfg} {ns os : List Int} (u : URow m k T c a R q0 i q ns os) (hi : i < k + T) (hp : poss k c i = true) (ho : 1048576 < uO m k T c i) : R = (2, [], [], []) := by
  rw [← u.res, show k + T - i = (k + T - (i + 1)) + 1 by omega]
  unfold uRow
  rw [if_pos hp, if_pos ho]
theorem URow.full {c : Cfg} {a : Nat} {R : Int × List Cfg × List Int × List Int} {q0 : List Cfg} {i : Nat} {q : List Cfg} {ns os : List Int} (u : URow m k T c a R q0 i q ns os) (hi : i < k + T) (hp : poss k c i = true) (ho : ¬ 1048576 < uO m k T c i) (hm : aftC m k c i ∉ q) (hq : 128 ≤ q.length) : R = (11, [], [], []) := by
  rw [← u.res, show k + T - i = (k + T - (i + 1)) + 1 by omega]
  unfold uRow
  rw [if_pos hp, if_neg ho, if_pos ⟨idx_eq.2 hm, hq⟩]
theorem URow.no {c : Cfg} {a : Nat} {R : Int × List Cfg × List Int × List Int} {q0 : List Cfg} {i : Nat} {q : List Cfg} {ns os : List Int} (u : URow m k T c a R q0 i q ns os) (hi : i < k + T) (hp : poss k c i = false) : URow m k T c a R q0 (i + 1) q (ns ++ [(a : Int)]) (os ++ [0]) := by
  have ha : a < q.length := by
    rcases Nat.lt_or_ge a q.length with hl | hl
    · exact hl
    · have := u.at_; rw [List.getElem?_eq_none hl] at this; cases this
  refine ⟨u.good, u.pre, u.at_, u.q128, by simp [u.ln], u.row.snoc ⟨by omega, by omega⟩ ⟨by omega, by omega⟩ (fun hq => ?_), ?_⟩
  · rw [u.ln, hp] at hq; cases hq
  · rw [← u.res, show k + T - i = (k + T - (i + 1)) + 1 by omega]
    conv => rhs; unfold uRow
    rw [if_neg (by rw [hp]; simp)]
theorem URow.old (h : Ok m k T S) {c : Cfg} {a : Nat} {R : Int × List Cfg × List Int × List Int} {q0 : List Cfg} {i : Nat} {q : List Cfg} {ns os : List Int} (hc : CfgOk m.nx.length T c) (u : URow m k T c a R q0 i q ns os) (hi : i < k + T) (hp : poss k c i = true) (ho : ¬ 1048576 < uO m k T c i) (hm : aftC m k c i ∈ q) :
    URow m k T c a R q0 (i + 1) q (ns ++ [(idx q (aftC m k c i) : Int)]) (os ++ [uO m k T c i]) := by
  have hl := idx_lt.2 hm
  have ho1 := (uO_0 h hc hi).1
  refine ⟨u.good, u.pre, u.at_, u.q128, by simp [u.ln], u.row.snoc ⟨by omega, by omega⟩ ⟨by omega, by omega⟩ (fun hq => ?_), ?_⟩
  · rw [u.ln, Int.toNat_natCast]; exact ⟨idx_get hm, rfl⟩
  · rw [← u.res, show k + T - i = (k + T - (i + 1)) + 1 by omega]
    conv => rhs; unfold uRow
    rw [if_pos hp, if_neg ho, if_neg (by omega), addC_in hm]
theorem URow.new (h : Ok m k T S) {c : Cfg} {a : Nat} {R : Int × List Cfg × List Int × List Int} {q0 : List Cfg} {i : Nat} {q : List Cfg} {ns os : List Int} (hc : CfgOk m.nx.length T c) (u : URow m k T c a R q0 i q ns os) (hi : i < k + T) (hp : poss k c i = true) (ho : ¬ 1048576 < uO m k T c i) (hm : aftC m k c i ∉ q) (hq : ¬ 128 ≤ q.length) :
    URow m k T c a R q0 (i + 1) (q ++ [aftC m k c i]) (ns ++ [(q.length : Int)]) (os ++ [uO m k T c i]) := by
  have ho1 := (uO_0 h hc hi).1
  obtain ⟨t, ht⟩ := u.pre
  have ha : a < q.length := by
    rcases Nat.lt_or_ge a q.length with hl | hl
    · exact hl
    · have := u.at_; rw [List.getElem?_eq_none hl] at this; cases this
  refine ⟨u.good.snoc (aft_ok h hc hi) hm, ⟨t ++ [aftC m k c i], by rw [ht]; simp⟩, by rw [List.getElem?_append_left ha]; exact u.at_, by simp; omega, by simp [u.ln], (u.row.grow _).snoc ⟨by omega, by simp; omega⟩ ⟨by omega, by omega⟩ (fun hq => ?_), ?_⟩
  · rw [u.ln, Int.toNat_natCast]; exact ⟨by rw [List.getElem?_append_right (Nat.le_refl _)]; simp, rfl⟩
  · rw [← u.res, show k + T - i = (k + T - (i + 1)) + 1 by omega]
    conv => rhs; unfold uRow
    rw [if_pos hp, if_neg ho, if_neg (by omega), addC_new hm, idx_eq.2 hm]
theorem URow.fin {c : Cfg} {a : Nat} {R : Int × List Cfg × List Int × List Int} {q0 : List Cfg} {i : Nat} {q : List Cfg} {ns os : List Int} (u : URow m k T c a R q0 i q ns os) (hi : ¬ i < k + T) : R = (0, q, ns, os) := by
  rw [← u.res, show k + T - i = 0 by omega]; rfl
/-- what holds at the state a -/
structure USea (m : M) (k T S : Nat) (R : Int × List (List Int) × List (List Int)) (a : Nat) (q : List Cfg) (nx out : List (List Int)) : Prop where
  good : Good m.nx.length T q
  le : a ≤ q.length
  q128 : q.length ≤ 128
  first : q[0]? = some (Tm.c0 S T)
  ln : nx.length = a
  lo : out.length = a
  rows : ∀ s c, s < a → q[s]? = some c → (nx.getD s []).length = k + T ∧ RowOk m k T q c (nx.getD s []) (out.getD s [])
  res : uAll m k T (big m - a) a q nx out = R
theorem USea.start (h : Ok m k T S) : USea m k T S (unt m k T S) 0 [Tm.c0 S T] [] [] :=
  ⟨Good.one (c0_ok h), Nat.zero_le _, by simp, rfl, rfl, rfl, fun s c hs => by omega, rfl⟩
theorem USea.lt (hm : Ok m k T S) {R : Int × List (List Int) × List (List Int)} {a : Nat} {q : List Cfg} {nx out : List (List Int)} (h : USea m k T S R a q nx out) : q.length < big m := by
  have := h.good.len16 hm.t4
  unfold big; omega
theorem USea.fin {R : Int × List (List Int) × List (List Int)} {a : Nat} {q : List Cfg} {nx out : List (List Int)} (h : USea m k T S R a q nx out) (ha : ¬ a < q.length) : R = (0, nx, out) := by
  rw [← h.res]
  generalize big m - a = f
  cases f with
  | zero => rfl
  | succ f => unfold uAll; rw [if_neg ha]
theorem USea.begin {R : Int × List (List Int) × List (List Int)} {a : Nat} {q : List Cfg} {nx out : List (List Int)} (h : USea m k T S R a q nx out) {c : Cfg} (hc : q[a]? = some c) : URow m k T c a (uRow m k T c a (k + T) 0 q [] []) q 0 q [] [] :=
  ⟨h.good, ⟨[], by simp⟩, hc, h.q128, rfl, ⟨rfl, fun i hi => by simp at hi, fun i hi => by simp at hi⟩, rfl⟩
theorem USea.err (hm : Ok m k T S) {R : Int × List (List Int) × List (List Int)} {a : Nat} {q : List Cfg} {nx out : List (List Int)} (h : USea m k T S R a q nx out) (ha : a < q.length) {c : Cfg} (hc : q[a]? = some c) {e : Int} (he : e ≠ 0) (hr : uRow m k T c a (k + T) 0 q [] [] = (e, [], [], [])) : R = (e, [], []) := by
  have hl := h.lt hm
  rw [← h.res]
  obtain ⟨f, hf⟩ : ∃ f, big m - a = f + 1 := ⟨big m - a - 1, by omega⟩
  rw [hf]
  unfold uAll
  have : q.getD a (0, []) = c := by rw [List.getD_eq_getElem?_getD, hc]; rfl
  rw [if_pos ha, this, hr, if_pos he]
theorem USea.next (hm : Ok m k T S) {R : Int × List (List Int) × List (List Int)} {a : Nat} {q : List Cfg} {nx out : List (List Int)} (h : USea m k T S R a q nx out) (ha : a < q.length) {c : Cfg} (hc : q[a]? = some c) {q' : List Cfg} {ns os : List Int}
    (u : URow m k T c a (uRow m k T c a (k + T) 0 q [] []) q (k + T) q' ns os) : USea m k T S R (a + 1) q' (nx ++ [ns]) (out ++ [os]) := by
  have hl := h.lt hm
  obtain ⟨t, ht⟩ := u.pre
  have hr := u.fin (by omega)
  refine ⟨u.good, by rw [ht, List.length_append]; omega, u.q128, ?_, by simp [h.ln], by simp [h.lo], fun s d hs hd => ?_, ?_⟩
  · rw [ht, List.getElem?_append_left (by omega)]; exact h.first
  · by_cases e : s = a
    · subst e
      have : d = c := by have := hd.symm.trans u.at_; simpa using this
      subst this
      have e1 : (nx ++ [ns]).getD s [] = ns := by rw [← h.ln]; exact getD_snoc_eq _ _ _
      have e2 : (out ++ [os]).getD s [] = os := by rw [← h.lo]; exact getD_snoc_eq _ _ _
      rw [e1, e2]
      exact ⟨u.ln, u.row⟩
    · have hs' : s < a := by omega
      rw [getD_snoc_lt _ _ _ (by rw [h.ln]; exact hs'), getD_snoc_lt _ _ _ (by rw [h.lo]; exact hs')]
      rw [ht, List.getElem?_append_left (by omega)] at hd
      obtain ⟨r1, r2⟩ := h.rows s d hs' hd
      exact ⟨r1, by rw [ht]; exact r2.grow t⟩
  · rw [← h.res]
    obtain ⟨f, hf⟩ : ∃ f, big m - a = f + 1 := ⟨big m - a - 1, by omega⟩
    rw [hf, show big m - (a + 1) = f by omega]
    conv => rhs; unfold uAll
    have : q.getD a (0, []) = c := by rw [List.getD_eq_getElem?_getD, hc]; rfl
    rw [if_pos ha, this, hr, if_neg (by simp)]
/-- the machine that the search returns is valid -/
theorem USea.valid (hm : Ok m k T S) {R : Int × List (List Int) × List (List Int)} {a : Nat} {q : List Cfg} {nx out : List (List Int)} (h : USea m k T S R a q nx out) (ha : ¬ a < q.length) : Mea.Ok (k + T) 0 nx out := by
  have hq : q.length = nx.length := by have := h.le; have := h.ln; omega
  have hpos : 0 < q.length := by
    rcases Nat.lt_or_ge 0 q.length with hl | hl
    · exact hl
    · have := h.first; rw [List.getElem?_eq_none hl] at this; cases this
  have row : ∀ s, s < nx.length → (nx.getD s []).length = k + T ∧ ∃ c, RowOk m k T q c (nx.getD s []) (out.getD s []) := fun s hs => by
    have hs' : s < q.length := by omega
    have := h.rows s q[s] (by have := h.ln; omega) (List.getElem?_eq_getElem hs')
    exact ⟨this.1, _, this.2⟩
  refine ⟨by have := hm.k1; omega, hm.k64, by omega, by have := h.q128; omega, by omega, by have := h.ln; have := h.lo; omega, fun s hs => (row s hs).1, fun s hs => ?_, fun s i hs hi => ?_⟩
  · obtain ⟨r1, c, r2⟩ := row s hs
    rw [r2.len]; exact r1
  · obtain ⟨r1, c, r2⟩ := row s hs
    have := r2.all i (by omega)
    exact ⟨this.1, by omega, this.2.2.1, this.2.2.2⟩
end
end Go.Proofs.Ytpcoddbkcelaoaa.Tm
