/- Plain law: where the search of the machine without time ends. -/
import Derived.Test.YtpcoddbkcelaoaaTim3
namespace Go.Proofs.Ytpcoddbkcelaoaa.Tm
open Mea

section
variable {m : M} {k T S : Nat}
theorem URow.run (h : Ok m k T S) {c : Cfg} {a : Nat} {R : Int × List Cfg × List Int × List Int} {q0 : List Cfg} (hc : CfgOk m.nx.length T c) : ∀ (j i : Nat) (q : List Cfg) (ns os : List Int), k + T - i = j → i ≤ k + T → URow m k T c a R q0 i q ns os →
    (∃ e, e ≠ 0 ∧ R = (e, [], [], [])) ∨ ∃ q' ns' os', URow m k T c a R q0 (k + T) q' ns' os'
  | 0, i, q, ns, os, hj, hi, u => by
    obtain rfl : i = k + T := by omega
    exact .inr ⟨q, ns, os, u⟩
  | j + 1, i, q, ns, os, hj, hi, u => by
    have hlt : i < k + T := by omega
    by_cases hp : poss k c i = true
    · by_cases ho : 1048576 < uO m k T c i
      · exact .inl ⟨2, by omega, u.lim hlt hp ho⟩
      · by_cases hm : aftC m k c i ∈ q
        · exact URow.run h hc j (i + 1) _ _ _ (by omega) (by omega) (u.old h hc hlt hp ho hm)
        · by_cases hq : 128 ≤ q.length
          · exact .inl ⟨11, by omega, u.full hlt hp ho hm hq⟩
          · exact URow.run h hc j (i + 1) _ _ _ (by omega) (by omega) (u.new h hc hlt hp ho hm hq)
    · have hp' : poss k c i = false := by simpa using hp
      exact URow.run h hc j (i + 1) _ _ _ (by omega) (by omega) (u.no hlt hp')
theorem USea.run (hm : Ok m k T S) {R : Int × List (List Int) × List (List Int)} : ∀ (j a : Nat) (q : List Cfg) (nx out : List (List Int)), 129 - a ≤ j → USea m k T S R a q nx out →
    R.1 ≠ 0 ∨ ∃ a' q', USea m k T S R a' q' R.2.1 R.2.2 ∧ ¬ a' < q'.length
  | j, a, q, nx, out, hj, h => by
    by_cases ha : a < q.length
    · have hq := h.q128
      obtain ⟨c, hc⟩ : ∃ c, q[a]? = some c := ⟨_, List.getElem?_eq_getElem ha⟩
      have hcm : CfgOk m.nx.length T c := h.good.ok c (List.mem_of_getElem? hc)
      rcases URow.run hm hcm (k + T - 0) 0 _ _ _ rfl (Nat.zero_le _) (h.begin hc) with ⟨e, he, hr⟩ | ⟨q', ns, os, u⟩
      · left
        rw [h.err hm ha hc he hr]
        exact he
      · cases j with
        | zero => omega
        | succ j => exact USea.run hm j (a + 1) _ _ _ (by omega) (h.next hm ha hc u)
    · right
      have hR := h.fin ha
      refine ⟨a, q, ?_, ha⟩
      have e1 : R.2.1 = nx := by rw [hR]
      have e2 : R.2.2 = out := by rw [hR]
      rw [e1, e2]; exact h
theorem unt_end (hm : Ok m k T S) {nx out : List (List Int)} (h : unt m k T S = (0, nx, out)) : ∃ a q, USea m k T S (unt m k T S) a q nx out ∧ ¬ a < q.length := by
  rcases USea.run hm 129 0 _ _ _ (by omega) (USea.start hm) with h1 | ⟨a, q, h1, h2⟩
  · rw [h] at h1; exact absurd rfl h1
  · have e1 : (unt m k T S).2.1 = nx := by rw [h]
    have e2 : (unt m k T S).2.2 = out := by rw [h]
    rw [e1, e2] at h1
    exact ⟨a, q, h1, h2⟩
end
end Go.Proofs.Ytpcoddbkcelaoaa.Tm
