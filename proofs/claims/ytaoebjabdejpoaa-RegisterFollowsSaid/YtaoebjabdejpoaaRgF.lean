/- Plain law of register automata: the unfolding answers for the automaton. -/
import Derived.Test.YtaoebjabdejpoaaRgB
import Derived.Test.YtaoebjabdejpoaaUnf
namespace Go.Proofs.Ytaoebjabdejpoaa.Rg
open Mea

/-- the state of a machine ahead of the symbol j -/
def mSt (nx : List (List Int)) (S : Nat) (w : List Int) : Nat → Nat
  | 0 => S
  | j + 1 => ((nx.getD (mSt nx S w j) []).getD (w.getD j 0).toNat 0).toNat
def mOut (nx out : List (List Int)) (S : Nat) (w : List Int) (j : Nat) : Int := (out.getD (mSt nx S w j) []).getD (w.getD j 0).toNat 0
/-- the outputs of the first j symbols -/
def mOuts (nx out : List (List Int)) (S : Nat) (w : List Int) (j : Nat) : List Int := (List.range j).map (mOut nx out S w)
theorem mOuts_len (nx out : List (List Int)) (S : Nat) (w : List Int) (j : Nat) : (mOuts nx out S w j).length = j := by simp [mOuts]
theorem mOuts_succ (nx out : List (List Int)) (S : Nat) (w : List Int) (j : Nat) : mOuts nx out S w (j + 1) = mOuts nx out S w j ++ [mOut nx out S w j] := by simp [mOuts, List.range_succ]
theorem mSt_lt {k S : Nat} {nx out : List (List Int)} (h : Mea.Ok k S nx out) {w : List Int} (hw : ∀ j, j < w.length → 0 ≤ w.getD j 0 ∧ w.getD j 0 < k) : ∀ j, j ≤ w.length → mSt nx S w j < nx.length
  | 0, _ => h.s
  | j + 1, hj => by
    have h1 := mSt_lt h hw j (by omega)
    have h2 := hw j (by omega)
    have h3 := h.cell (mSt nx S w j) (w.getD j 0).toNat h1 (by omega)
    unfold okC at h3
    show ((nx.getD (mSt nx S w j) []).getD (w.getD j 0).toNat 0).toNat < nx.length
    omega
section
variable {m : M} {k s d : Nat} {w : Dw} {nx out : List (List Int)}
theorem uVal_num (j : Nat) : uVal (vals w j).length (oldN w j) = numA w j ∧ max (vals w j).length (numA w j) = (vals w (j + 1)).length := by
  by_cases h : (w.getD j (0, 0)).2 ∈ vals w j
  · have h1 := num_len h
    have h2 := num_pos w j
    have h3 : oldN w j = numA w j := if_pos h
    unfold uVal
    rw [h3, if_neg (by omega), vals_old h]
    exact ⟨rfl, by omega⟩
  · have h3 : oldN w j = 0 := if_neg h
    unfold uVal
    rw [h3, if_pos rfl, vals_new h, num_new h, List.length_append, List.length_singleton]
    exact ⟨rfl, by omega⟩
theorem uPoss_num (h : SymOk w (k : Int) (d : Int)) {j : Nat} (hj : j < w.length) : uPoss d (vals w j).length (oldN w j) = true := by
  refine decide_eq_true ?_
  have h4 := h.few (j + 1) (by omega)
  by_cases hm : (w.getD j (0, 0)).2 ∈ vals w j
  · have h1 := num_len hm
    have h2 := num_pos w j
    have h3 : oldN w j = numA w j := if_pos hm
    omega
  · have h3 : oldN w j = 0 := if_neg hm
    rw [vals_new hm, List.length_append, List.length_singleton] at h4
    omega
theorem SymOk.nat (h : SymOk w (k : Int) (d : Int)) {j : Nat} (hj : j < w.length) : (symA w d j).toNat % (d + 1) = oldN w j ∧ (symA w d j).toNat / (d + 1) = (w.getD j (0, 0)).1.toNat ∧ (symA w d j).toNat < k * (d + 1) := by
  obtain ⟨h1, h2, h3, h4⟩ := h.parts hj
  obtain ⟨x, hx⟩ : ∃ x : Nat, symA w d j = x := ⟨(symA w d j).toNat, by omega⟩
  rw [hx] at h1 h2 h3 h4 ⊢
  rw [Int.toNat_natCast]
  refine ⟨by exact_mod_cast h1, ?_, ?_⟩
  · rw [← h2]; rfl
  · exact_mod_cast h4
theorem uStep (h : SymOk w (k : Int) (d : Int)) {j : Nat} (hj : j < w.length) :
    uN m d ((stA m (canon w w.length) j).1, (stA m (canon w w.length) j).2, (vals w j).length) (symA w d j).toNat = ((stA m (canon w w.length) (j + 1)).1, (stA m (canon w w.length) (j + 1)).2, (vals w (j + 1)).length) ∧
    uO m d ((stA m (canon w w.length) j).1, (stA m (canon w w.length) j).2, (vals w j).length) (symA w d j).toNat = 1 + outA m (canon w w.length) j := by
  obtain ⟨h1, h2, h3⟩ := h.nat hj
  have hp := uPoss_num h hj
  obtain ⟨v1, v2⟩ := uVal_num (w := w) j
  have hc : (canon w w.length).getD j (0, 0) = ((w.getD j (0, 0)).1, (numA w j : Int)) := by rw [can_get hj]; rfl
  constructor
  · rw [uN_yes (by rw [h1]; exact hp), h1, h2]
    dsimp only
    rw [v1, v2]
    have e1 : stA m (canon w w.length) (j + 1) = nxt m (stA m (canon w w.length) j) ((canon w w.length).getD j (0, 0)).1.toNat ((canon w w.length).getD j (0, 0)).2 := rfl
    rw [e1, hc]
  · rw [uO_yes (by rw [h1]; exact hp), h1, h2]
    dsimp only
    rw [v1]
    unfold outA
    rw [hc]
theorem walk (hm : Ok m k s) (h : SymOk w (k : Int) (d : Int)) {R : Int × List (List Int) × List (List Int)} {a : Nat} {q : List Uc} (hs : USea (srch m k d) (uc0 s) R a q nx out) (ha : ¬ a < q.length) : ∀ j, j ≤ w.length →
    q[mSt nx 0 (syms w d w.length) j]? = some ((stA m (canon w w.length) j).1, (stA m (canon w w.length) j).2, (vals w j).length) ∧ ∀ i, i < j → mOut nx out 0 (syms w d w.length) i = outA m (canon w w.length) i + 1
  | 0, _ => by
    refine ⟨?_, fun i hi => by omega⟩
    show q[0]? = _
    rw [hs.first]
    show some (s, [], 0) = some (m.S.toNat, [], 0)
    rw [hm.S, Int.toNat_natCast]
  | j + 1, hj => by
    obtain ⟨h1, h2⟩ := walk hm h hs ha j (by omega)
    have hl : mSt nx 0 (syms w d w.length) j < a := by
      have := (List.getElem?_eq_some_iff.1 h1).1
      have := hs.le
      omega
    obtain ⟨r1, r2⟩ := hs.rows _ _ hl h1
    obtain ⟨n1, n2, n3⟩ := h.nat (j := j) (by omega)
    obtain ⟨g1, g2⟩ := r2.hit (symA w d j).toNat (by rw [r1]; exact n3)
    obtain ⟨u1, u2⟩ := uStep (m := m) h (j := j) (by omega)
    have g1' : q[((nx.getD (mSt nx 0 (syms w d w.length) j) []).getD (symA w d j).toNat 0).toNat]? = some (uN m d ((stA m (canon w w.length) j).1, (stA m (canon w w.length) j).2, (vals w j).length) (symA w d j).toNat) := g1
    have g2' : (out.getD (mSt nx 0 (syms w d w.length) j) []).getD (symA w d j).toNat 0 = uO m d ((stA m (canon w w.length) j).1, (stA m (canon w w.length) j).2, (vals w j).length) (symA w d j).toNat := g2
    rw [u1] at g1'
    rw [u2] at g2'
    have hx : (syms w d w.length).getD j 0 = symA w d j := syms_get (by omega)
    refine ⟨?_, fun i hi => ?_⟩
    · show q[((nx.getD (mSt nx 0 (syms w d w.length) j) []).getD ((syms w d w.length).getD j 0).toNat 0).toNat]? = _
      rw [hx]; exact g1'
    · by_cases e : i = j
      · subst e
        show (out.getD (mSt nx 0 (syms w d w.length) i) []).getD ((syms w d w.length).getD i 0).toNat 0 = _
        rw [hx, g2']; omega
      · exact h2 i (by omega)
end
/-- what an unfolding without an error is -/
structure UnfOk (m : M) (d : Int) : Prop where
  ex : ∃ (k s dn : Nat), Ok m k s ∧ d = dn ∧ 1 ≤ dn ∧ dn ≤ 6 ∧ k * (dn + 1) ≤ 64 ∧ (unfE m d).2.1 = ((k * (dn + 1) : Nat) : Int) ∧ Mea.Ok (k * (dn + 1)) 0 (unfE m d).2.2.1 (unfE m d).2.2.2 ∧
    ∃ R a q, USea (srch m k dn) (uc0 s) R a q (unfE m d).2.2.1 (unfE m d).2.2.2 ∧ ¬ a < q.length
theorem unfOk_of {m : M} {d : Int} (h : (unfE m d).1 = 0) : UnfOk m d := by
  by_cases hv : validE m = 0
  rotate_left
  · rw [unf_bad hv] at h; exact absurd h hv
  obtain ⟨k, s, hm⟩ := ok_of hv
  cases hp : permB m.I d with
  | false => rw [unf_perm hv hp] at h; cases h
  | true =>
    have h5 : 1 ≤ m.I ∧ m.I ≤ 64 ∧ 1 ≤ d ∧ d ≤ 6 ∧ m.I * (d + 1) ≤ 64 := of_decide_eq_true hp
    obtain ⟨dn, rfl⟩ : ∃ n : Nat, d = n := ⟨d.toNat, by omega⟩
    have hI := hm.I
    have hS := hm.S
    rw [hI] at h5
    have hk64 : k * (dn + 1) ≤ 64 := by exact_mod_cast h5.2.2.2.2
    have hk1 : 1 ≤ k * (dn + 1) := by have := Nat.mul_le_mul hm.k1 (show 1 ≤ dn + 1 by omega); omega
    obtain ⟨r, nx, out, hr⟩ : ∃ r nx out, sea (srch m k dn) (uc0 s) = (r, nx, out) := ⟨_, _, _, rfl⟩
    have he : r = 0 := by
      rcases Classical.em (r = 0) with h0 | h0
      · exact h0
      · exfalso
        unfold unfE at h
        rw [if_neg (by omega), if_neg (by rw [hp]; simp), hI, hS] at h
        simp only [Int.toNat_natCast] at h
        rw [hr, if_pos h0] at h
        exact h0 h
    subst he
    have hU := unf_ok hm hp hr
    obtain ⟨a, q, hs, ha⟩ := sea_end (srch_ok hm) (uc0_ok hm) hr
    refine ⟨?_⟩
    rw [hU]
    exact ⟨k, s, dn, hm, rfl, by omega, by omega, hk64, by push_cast; rfl, hs.valid hk1 hk64 ha, _, a, q, hs, ha⟩
/-- the unfolding answers for the automaton -/
theorem follows {m : M} {d : Int} {w : Dw} (hu : UnfOk m d) (hr : (runE m w).1 = 0) (hs : (symE w m.I d).1 = 0) :
    mOuts (unfE m d).2.2.1 (unfE m d).2.2.2 0 (symE w m.I d).2 w.length = (runE m w).2.map (· + 1) ∧ (symE w m.I d).2.length = w.length ∧ (runE m w).2.length = w.length ∧
    (∀ j, j < w.length → 0 ≤ (symE w m.I d).2.getD j 0 ∧ (symE w m.I d).2.getD j 0 < (unfE m d).2.1) ∧ w.length ≤ 1024 := by
  obtain ⟨k, s, dn, hm, rfl, d1, d6, hk64, hn, hM, R, a, q, hsea, ha⟩ := hu.ex
  have hI := hm.I
  rw [hn]
  rw [hI] at hs ⊢
  have hso := symOk_of hs
  rw [hso.res]
  have hl := hso.len
  have hw : firstE (datE m.I w) w.length = 0 := by
    rcases Classical.em (firstE (datE m.I w) w.length = 0) with h0 | h0
    · exact h0
    · exfalso
      unfold runE at hr
      rw [if_neg (by simp [hm.valid]), if_neg (by omega), if_pos h0] at hr
      exact h0 hr
  have hrun : runE m w = (0, outs m w w.length) := by
    unfold runE
    rw [if_neg (by simp [hm.valid]), if_neg (by omega), if_neg (by omega)]
  rw [hrun]
  dsimp only
  refine ⟨?_, syms_len _ _ _, outs_len _ _ _, fun j hj => ?_, hl⟩
  · unfold mOuts outs
    rw [List.map_map]
    refine List.map_congr_left fun j hj => ?_
    have hj' := List.mem_range.1 hj
    rw [(walk hm hso hsea ha w.length (Nat.le_refl _)).2 j hj', out_can hm hw hj']
    rfl
  · rw [syms_get hj]
    have := hso.parts hj
    push_cast
    exact ⟨this.2.2.1, this.2.2.2⟩
end Go.Proofs.Ytaoebjabdejpoaa.Rg
