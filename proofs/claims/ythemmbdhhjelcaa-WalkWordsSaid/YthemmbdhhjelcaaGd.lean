/- Plain law of guided walks: the state (seed, which transitions were taken, the machine's state) and the words. -/
import Derived.Test.YthemmbdhhjelcaaRnd2
import Derived.Test.YthemmbdhhjelcaaMea
namespace Go.Proofs.Ythemmbdhhjelcaa.Gd
open Go.Proofs.Ythemmbdhhjelcaa.Rnd

def G : Type := Nat × (Nat → Nat → Bool) × Nat
/-- the weights in a state -/
def ws (T : Nat → Nat → Bool) (s k : Nat) : List Int := (List.range k).map fun a => if T s a = true then 1 else 8
theorem ws_len (T : Nat → Nat → Bool) (s k : Nat) : (ws T s k).length = k := by simp [ws]
theorem ws_get (T : Nat → Nat → Bool) (s k : Nat) {a : Nat} (h : a < k) : (ws T s k).getD a 0 = if T s a = true then 1 else 8 := by
  rw [ws, List.getD_eq_getElem?_getD, List.getElem?_map, List.getElem?_range h]; rfl
theorem ws_nn (T : Nat → Nat → Bool) (s k : Nat) : ∀ x ∈ ws T s k, 0 ≤ x := by
  intro x hx
  obtain ⟨a, _, rfl⟩ := List.mem_map.1 hx
  split <;> omega
theorem ws_sum (T : Nat → Nat → Bool) (s : Nat) : ∀ k : Nat, (k : Int) ≤ (ws T s k).sum ∧ (ws T s k).sum ≤ 8 * k
  | 0 => by simp [ws]
  | k + 1 => by
    have := ws_sum T s k
    have e : ws T s (k + 1) = ws T s k ++ [if T s k = true then 1 else 8] := by simp [ws, List.range_succ]
    rw [e, List.sum_append]
    simp only [List.sum_cons, List.sum_nil]
    split <;> omega
noncomputable def gpick (k : Nat) (σ : G) : Nat := pick (ws σ.2.1 σ.2.2 k) (bel σ.1 (ws σ.2.1 σ.2.2 k).sum.toNat).1
noncomputable def gseed (k : Nat) (σ : G) : Nat := (bel σ.1 (ws σ.2.1 σ.2.2 k).sum.toNat).2
theorem chv_ws (k : Nat) (σ : G) (h1 : 1 ≤ k) (h2 : k ≤ 64) : chv σ.1 (ws σ.2.1 σ.2.2 k) = ((gpick k σ : Int), gseed k σ, 0) := by
  have := ws_sum σ.2.1 σ.2.2 k
  exact chv_in (ws_nn _ _ _) (by omega) (by omega)
theorem gpick_lt (k : Nat) (σ : G) (h1 : 1 ≤ k) : gpick k σ < k := by
  have hs := ws_sum σ.2.1 σ.2.2 k
  have hb := bel_lt σ.1 (ws σ.2.1 σ.2.2 k).sum.toNat (by omega)
  have := (pick_spec (ws σ.2.1 σ.2.2 k) (bel σ.1 (ws σ.2.1 σ.2.2 k).sum.toNat).1 (by omega) (by omega)).1
  rw [ws_len] at this
  exact this
def upd (T : Nat → Nat → Bool) (s a : Nat) : Nat → Nat → Bool := fun s' a' => if s' = s ∧ a' = a then true else T s' a'
noncomputable def gnext (k : Nat) (nx : List (List Int)) (σ : G) : G := (gseed k σ, upd σ.2.1 σ.2.2 (gpick k σ), ((nx.getD σ.2.2 []).getD (gpick k σ) 0).toNat)
noncomputable def git (k : Nat) (nx : List (List Int)) (σ : G) : Nat → G
  | 0 => σ
  | i + 1 => gnext k nx (git k nx σ i)
noncomputable def gword (k : Nat) (nx : List (List Int)) (σ : G) (len : Nat) : List Int := (List.range len).map fun i => (gpick k (git k nx σ i) : Int)
theorem gword_len (k : Nat) (nx : List (List Int)) (σ : G) (len : Nat) : (gword k nx σ len).length = len := by simp [gword]
theorem gword_succ (k : Nat) (nx : List (List Int)) (σ : G) (i : Nat) : gword k nx σ (i + 1) = gword k nx σ i ++ [(gpick k (git k nx σ i) : Int)] := by simp [gword, List.range_succ]
noncomputable def gw (k : Nat) (nx : List (List Int)) (S len seed : Nat) : Nat → G
  | 0 => (seed, fun _ _ => false, S)
  | j + 1 => ((git k nx (gw k nx S len seed j) len).1, (git k nx (gw k nx S len seed j) len).2.1, S)
noncomputable def gl (k : Nat) (nx : List (List Int)) (S len seed n : Nat) : List (List Int) := (List.range n).map fun j => gword k nx (gw k nx S len seed j) len
theorem gl_len (k : Nat) (nx : List (List Int)) (S len seed n : Nat) : (gl k nx S len seed n).length = n := by simp [gl]
theorem gl_succ (k : Nat) (nx : List (List Int)) (S len seed n : Nat) : gl k nx S len seed (n + 1) = gl k nx S len seed n ++ [gword k nx (gw k nx S len seed n) len] := by simp [gl, List.range_succ]
theorem gl_get (k : Nat) (nx : List (List Int)) (S len seed n : Nat) {j : Nat} (h : j < n) : (gl k nx S len seed n).getD j [] = gword k nx (gw k nx S len seed j) len := by
  rw [gl, List.getD_eq_getElem?_getD, List.getElem?_map, List.getElem?_range h]; rfl
/-- a state that can come up -/
def Fit (nx : List (List Int)) (σ : G) : Prop := σ.1 < 18446744073709551616 ∧ σ.2.2 < nx.length
theorem next_int {k S : Nat} {nx out : List (List Int)} (ok : Mea.Ok k S nx out) {s a : Nat} (hs : s < nx.length) (ha : a < k) : ((nx.getD s []).getD a 0) = (((nx.getD s []).getD a 0).toNat : Int) ∧ ((nx.getD s []).getD a 0).toNat < nx.length := by
  obtain ⟨h1, h2, _⟩ := ok.cell s a hs ha
  omega
theorem fit_next {k S : Nat} {nx out : List (List Int)} (ok : Mea.Ok k S nx out) {σ : G} (h : Fit nx σ) : Fit nx (gnext k nx σ) :=
  ⟨bel2_lt _ _, (next_int ok h.2 (gpick_lt k σ ok.k1)).2⟩
theorem fit_it {k S : Nat} {nx out : List (List Int)} (ok : Mea.Ok k S nx out) {σ : G} (h : Fit nx σ) : ∀ i, Fit nx (git k nx σ i)
  | 0 => h
  | i + 1 => fit_next ok (fit_it ok h i)
theorem fit_w {k S : Nat} {nx out : List (List Int)} (ok : Mea.Ok k S nx out) (len seed : Nat) (hs : seed < 18446744073709551616) : ∀ j, Fit nx (gw k nx S len seed j)
  | 0 => ⟨hs, ok.s⟩
  | j + 1 => ⟨(fit_it ok (fit_w ok len seed hs j) len).1, ok.s⟩
theorem gw_S (k : Nat) (nx : List (List Int)) (S len seed : Nat) : ∀ j, (gw k nx S len seed j).2.2 = S
  | 0 => rfl
  | _ + 1 => rfl
/-- the weights behind a step -/
theorem ws_upd (T : Nat → Nat → Bool) (s a k s' : Nat) (ha : a < k) : ws (upd T s a) s' k = if s' = s then (ws T s k).set a 1 else ws T s' k := by
  by_cases h : s' = s
  · subst h
    rw [if_pos rfl]
    apply List.ext_getElem?
    intro i
    by_cases hi : i < k
    · rw [ws, List.getElem?_map, List.getElem?_range hi, List.getElem?_set]
      by_cases e : a = i
      · subst e; simp [ws_len, ha, upd]
      · rw [if_neg e, ws, List.getElem?_map, List.getElem?_range hi]
        have : upd T s' a s' i = T s' i := by unfold upd; rw [if_neg (fun h => e h.2.symm)]
        simp [this]
    · rw [List.getElem?_eq_none (by simp [ws_len]; omega), List.getElem?_eq_none (by simp [ws_len]; omega)]
  · rw [if_neg h]
    unfold ws
    apply List.map_congr_left
    intro b _
    have : upd T s a s' b = T s' b := by unfold upd; rw [if_neg (fun e => h e.1)]
    rw [this]
end Go.Proofs.Ythemmbdhhjelcaa.Gd
