/- Plain law of register automata: the canonical form of a word has the same form, the same symbols and the same outputs, and the symbols tell the form. -/
import Derived.Test.YtaoebjabdejpoaaRg2
namespace Go.Proofs.Ytaoebjabdejpoaa.Rg
open Mea

theorem firstE_congr {f g : Nat → Int} : ∀ {n : Nat}, (∀ j, j < n → f j = g j) → firstE f n = firstE g n
  | 0, _ => rfl
  | n + 1, h => by
    have h1 : firstE f n = firstE g n := firstE_congr fun j hj => h j (by omega)
    rw [firstE, firstE, h1, h n (by omega)]
/-- 1, 2, .. n -/
def ones (n : Nat) : List Int := (List.range n).map (fun i => ((i + 1 : Nat) : Int))
theorem ones_succ (n : Nat) : ones (n + 1) = ones n ++ [((n + 1 : Nat) : Int)] := by simp [ones, List.range_succ]
theorem ones_len (n : Nat) : (ones n).length = n := by simp [ones]
theorem ones_get {n i : Nat} (h : i < n) : (ones n)[i]? = some ((i + 1 : Nat) : Int) := by
  unfold ones; rw [List.getElem?_map, List.getElem?_range h]; rfl
theorem ones_mem {n v : Nat} : ((v : Int) ∈ ones n) ↔ 1 ≤ v ∧ v ≤ n := by
  unfold ones
  rw [List.mem_map]
  constructor
  · rintro ⟨i, hi, e⟩
    rw [List.mem_range] at hi
    omega
  · rintro ⟨h1, h2⟩
    exact ⟨v - 1, List.mem_range.2 (by omega), by omega⟩
theorem ones_nd : ∀ n, (ones n).Nodup
  | 0 => List.nodup_nil
  | n + 1 => by
    rw [ones_succ, List.nodup_append]
    refine ⟨ones_nd n, by simp, fun a ha b hb => ?_⟩
    simp only [List.mem_singleton] at hb
    subst hb
    rintro rfl
    have := (ones_mem (n := n) (v := n + 1)).1 ha
    omega
theorem idx_ones {n v : Nat} (h1 : 1 ≤ v) (h2 : v ≤ n) : idx (ones n) (v : Int) + 1 = v := by
  have h3 : (ones n)[v - 1]? = some (v : Int) := by rw [ones_get (by omega)]; congr 1; omega
  have := idx_of_get (ones_nd n) h3
  omega
theorem can_get {w : Dw} {n j : Nat} (h : j < n) : (canon w n).getD j (0, 0) = canA w j := by
  unfold canon
  rw [List.getD_eq_getElem?_getD, List.getElem?_map, List.getElem?_range h]; rfl
theorem num_pos (w : Dw) (j : Nat) : 1 ≤ numA w j := by unfold numA; omega
theorem num_len {w : Dw} {j : Nat} (h : (w.getD j (0, 0)).2 ∈ vals w j) : numA w j ≤ (vals w j).length := by have := num_le w j; rw [vals_old h] at this; exact this
theorem vals_can {w : Dw} {n : Nat} : ∀ j, j ≤ n → vals (canon w n) j = ones (vals w j).length
  | 0, _ => rfl
  | j + 1, hj => by
    have ih := vals_can (w := w) (n := n) j (by omega)
    have hg : ((canon w n).getD j (0, 0)).2 = (numA w j : Int) := by rw [can_get (by omega)]; rfl
    by_cases h : (w.getD j (0, 0)).2 ∈ vals w j
    · have h1 : ((canon w n).getD j (0, 0)).2 ∈ vals (canon w n) j := by
        rw [hg, ih, ones_mem]; exact ⟨num_pos w j, num_len h⟩
      rw [vals_old h1, vals_old h, ih]
    · have h1 : ((canon w n).getD j (0, 0)).2 ∉ vals (canon w n) j := by
        rw [hg, ih, ones_mem, num_new h]; omega
      rw [vals_new h1, vals_new h, ih, hg, num_new h, List.length_append, List.length_singleton, ones_succ]
theorem num_can {w : Dw} {n j : Nat} (h : j < n) : numA (canon w n) j = numA w j := by
  have hg : ((canon w n).getD j (0, 0)).2 = (numA w j : Int) := by rw [can_get h]; rfl
  show idx (vals (canon w n) (j + 1)) ((canon w n).getD j (0, 0)).2 + 1 = _
  rw [hg, vals_can (j + 1) (by omega)]
  exact idx_ones (num_pos w j) (num_le w j)
theorem canA_can {w : Dw} {n j : Nat} (h : j < n) : canA (canon w n) j = canA w j := by
  unfold canA
  rw [num_can h, can_get h]
  rfl
/-- the canonical form of a canonical form -/
theorem canon_can (w : Dw) (n : Nat) : canon (canon w n) n = canon w n := by
  unfold canon
  refine List.map_congr_left fun j hj => ?_
  exact canA_can (w := w) (List.mem_range.1 hj)
theorem mem_can {w : Dw} {n j : Nat} (h : j < n) : ((canon w n).getD j (0, 0)).2 ∈ vals (canon w n) j ↔ (w.getD j (0, 0)).2 ∈ vals w j := by
  have hg : ((canon w n).getD j (0, 0)).2 = (numA w j : Int) := by rw [can_get h]; rfl
  rw [hg, vals_can j (by omega), ones_mem]
  constructor
  · rintro ⟨h1, h2⟩
    by_cases hm : (w.getD j (0, 0)).2 ∈ vals w j
    · exact hm
    · rw [num_new hm] at h2; omega
  · intro hm; exact ⟨num_pos w j, num_len hm⟩
theorem old_can {w : Dw} {n j : Nat} (h : j < n) : oldN (canon w n) j = oldN w j := by
  unfold oldN
  rw [num_can h]
  by_cases hm : (w.getD j (0, 0)).2 ∈ vals w j
  · rw [if_pos hm, if_pos ((mem_can h).2 hm)]
  · rw [if_neg hm, if_neg (fun e => hm ((mem_can h).1 e))]
theorem act_can {w : Dw} {n j : Nat} (h : j < n) : ((canon w n).getD j (0, 0)).1 = (w.getD j (0, 0)).1 := by rw [can_get h]; rfl
/-- the symbols of the canonical form -/
theorem sym_can (w : Dw) (a d : Int) : symE (canon w w.length) a d = symE w a d := by
  have h1 : firstE (symE0 (canon w w.length) a d) w.length = firstE (symE0 w a d) w.length := firstE_congr fun j hj => by
    unfold symE0
    rw [act_can hj, vals_can (j + 1) (by omega), ones_len]
  have h2 : syms (canon w w.length) d w.length = syms w d w.length := by
    unfold syms
    refine List.map_congr_left fun j hj => ?_
    have hj' := List.mem_range.1 hj
    unfold symA
    rw [act_can hj', old_can hj']
  unfold symE
  rw [canon_len, h1, h2]
/-! ### symbols tell the form -/
theorem old_le (w : Dw) (j : Nat) : oldN w j ≤ (vals w j).length := by
  unfold oldN
  split
  · rename_i h; exact num_len h
  · omega
theorem vals_mono (w : Dw) {i j : Nat} (h : i ≤ j) : ∃ t, vals w j = vals w i ++ t := by
  induction j with
  | zero => obtain rfl : i = 0 := by omega
            exact ⟨[], by simp⟩
  | succ j ih =>
    by_cases e : i = j + 1
    · subst e; exact ⟨[], by simp⟩
    · obtain ⟨t, ht⟩ := ih (by omega)
      obtain ⟨u, hu⟩ := vals_pre w j
      exact ⟨t ++ u, by rw [hu, ht, List.append_assoc]⟩
structure SymOk (w : Dw) (a d : Int) : Prop where
  d1 : 1 ≤ d
  d6 : d ≤ 6
  k2 : 1 ≤ a * (d + 1)
  k64 : a * (d + 1) ≤ 64
  len : w.length ≤ 1024
  act : ∀ j, j < w.length → 0 ≤ (w.getD j (0, 0)).1 ∧ (w.getD j (0, 0)).1 < a
  few : ∀ j, j ≤ w.length → ((vals w j).length : Int) ≤ d
  res : symE w a d = (0, syms w d w.length)
theorem symOk_of {w : Dw} {a d : Int} (h : (symE w a d).1 = 0) : SymOk w a d := by
  have h0 := h
  unfold symE at h
  split at h
  · cases h
  rename_i h1
  split at h
  · cases h
  rename_i h2
  split at h
  · rename_i h3; exact absurd h h3
  rename_i h3
  have h4 : permB a d = true := by cases hp : permB a d with
    | true => rfl
    | false => exact absurd hp h1
  have h5 : 1 ≤ a ∧ a ≤ 64 ∧ 1 ≤ d ∧ d ≤ 6 ∧ a * (d + 1) ≤ 64 := of_decide_eq_true h4
  obtain ⟨a1, a64, d1, d6, ad⟩ := h5
  have h6 := firstE_of_zero (Classical.not_not.1 h3)
  have key : ∀ j, j < w.length → (0 ≤ (w.getD j (0, 0)).1 ∧ (w.getD j (0, 0)).1 < a) ∧ ((vals w (j + 1)).length : Int) ≤ d := fun j hj => by
    have := h6 j hj
    unfold symE0 at this
    split at this
    · omega
    · split at this
      · omega
      · omega
  refine ⟨d1, d6, ?_, ad, by omega, fun j hj => (key j hj).1, fun j hj => ?_, ?_⟩
  · have := Int.mul_le_mul a1 (show 1 ≤ d + 1 by omega) (by omega) (by omega); omega
  · cases j with
    | zero => show ((0 : Nat) : Int) ≤ d; omega
    | succ j => exact (key j (by omega)).2
  · unfold symE
    rw [if_neg h1, if_neg h2, if_neg h3]
theorem syms_get {w : Dw} {d : Int} {n j : Nat} (h : j < n) : (syms w d n).getD j 0 = symA w d j := by
  unfold syms
  rw [List.getD_eq_getElem?_getD, List.getElem?_map, List.getElem?_range h]; rfl
section
variable {w : Dw} {a d : Int}
theorem SymOk.parts (h : SymOk w a d) {j : Nat} (hj : j < w.length) : symA w d j % (d + 1) = (oldN w j : Int) ∧ symA w d j / (d + 1) = (w.getD j (0, 0)).1 ∧ 0 ≤ symA w d j ∧ symA w d j < a * (d + 1) := by
  have h1 := h.d1
  have h2 := old_le w j
  have h3 := h.few j (by omega)
  obtain ⟨h4, h5⟩ := h.act j hj
  unfold symA
  generalize (w.getD j (0, 0)).1 = x at *
  generalize hy : (oldN w j : Int) = y at *
  have y0 : 0 ≤ y := by omega
  have y1 : y < d + 1 := by omega
  have e : x * (d + 1) + y = y + (d + 1) * x := by rw [Int.mul_comm]; omega
  refine ⟨?_, ?_, ?_, ?_⟩
  · rw [e, Int.add_mul_emod_self_left]; exact Int.emod_eq_of_lt y0 y1
  · rw [e, Int.add_mul_ediv_left _ _ (by omega), Int.ediv_eq_zero_of_lt y0 y1]; omega
  · have := Int.mul_nonneg h4 (show 0 ≤ d + 1 by omega); omega
  · have := Int.mul_le_mul_of_nonneg_right (show x + 1 ≤ a by omega) (show 0 ≤ d + 1 by omega)
    rw [Int.add_mul] at this
    omega
theorem old_zero (j : Nat) : oldN w j = 0 ↔ (w.getD j (0, 0)).2 ∉ vals w j := by
  unfold oldN
  constructor
  · intro h hm
    rw [if_pos hm] at h
    have := num_pos w j
    omega
  · intro h; rw [if_neg h]
theorem SymOk.zer (h : SymOk w a d) : ∀ j, j ≤ w.length → zer (syms w d w.length) d j = (vals w j).length
  | 0, _ => rfl
  | j + 1, hj => by
    have ih := h.zer j (by omega)
    have hr : remA (syms w d w.length) d j = (oldN w j : Int) := by
      unfold remA; rw [syms_get (by omega)]; exact (h.parts (by omega)).1
    by_cases hm : (w.getD j (0, 0)).2 ∈ vals w j
    · have h0 : remA (syms w d w.length) d j ≠ 0 := by rw [hr]; intro e; exact (old_zero j).1 (by omega) hm
      rw [(zer_no h0).1, vals_old hm, ih]
    · have h0 : remA (syms w d w.length) d j = 0 := by rw [hr, (old_zero j).2 hm]; rfl
      rw [(zer_yes h0).1, vals_new hm, ih, List.length_append, List.length_singleton]
theorem SymOk.val (h : SymOk w a d) {j : Nat} (hj : j < w.length) : valJ (syms w d w.length) d j = (numA w j : Int) := by
  have hz := h.zer j (by omega)
  have hr : remA (syms w d w.length) d j = (oldN w j : Int) := by
    unfold remA; rw [syms_get hj]; exact (h.parts hj).1
  by_cases hm : (w.getD j (0, 0)).2 ∈ vals w j
  · have h0 : remA (syms w d w.length) d j ≠ 0 := by rw [hr]; intro e; exact (old_zero j).1 (by omega) hm
    rw [(zer_no h0).2, hr]
    unfold oldN; rw [if_pos hm]
  · have h0 : remA (syms w d w.length) d j = 0 := by rw [hr, (old_zero j).2 hm]; rfl
    rw [(zer_yes h0).2, hz, num_new hm]
/-- what the symbols of a word tell -/
theorem SymOk.back (h : SymOk w a d) : datX (syms w d w.length) a d = (0, canon w w.length) := by
  have hd1 := h.d1; have hd6 := h.d6; have hk := h.k2; have hk64 := h.k64; have hl := h.len
  have hp : permB a d = true := by
    have h1 := h.res
    cases hp : permB a d with
    | true => rfl
    | false => unfold symE at h1; rw [if_pos hp] at h1; injection h1 with h1; omega
  have hw : wordE (a * (d + 1)) (syms w d w.length) = 0 := by
    unfold wordE
    rw [if_neg (by omega), syms_len, if_neg (by omega), firstE_zero (fun j hj => by
      rw [syms_get hj]
      have := h.parts hj
      rw [if_neg (by omega)]), if_neg (by simp)]
  have hd : firstE (datE0 (syms w d w.length) d) w.length = 0 := firstE_zero fun j hj => by
    unfold datE0
    have h1 := h.few (j + 1) (by omega)
    have h2 := num_le w j
    rw [h.zer (j + 1) (by omega), h.val hj, if_neg (by omega)]
  unfold datX
  rw [if_neg (by rw [hp]; simp), if_neg (by omega), syms_len, if_neg (by omega)]
  congr 1
  unfold dats canon
  refine List.map_congr_left fun j hj => ?_
  have hj' := List.mem_range.1 hj
  unfold datA canA
  rw [syms_get hj', (h.parts hj').2.1, h.val hj']
end
/-! ### outputs of the canonical form -/
theorem fndD_map {r : List Int} {N : Int → Int} {v : Int} (h : ∀ x ∈ r, N x = N v → x = v) : ∀ j, j ≤ r.length → fndD (r.map N) (N v) j = fndD r v j
  | 0, _ => rfl
  | j + 1, hj => by
    have hl : r.length - (j + 1) < r.length := by omega
    have e : (r.map N).getD ((r.map N).length - (j + 1)) 0 = N (r.getD (r.length - (j + 1)) 0) := by
      rw [List.length_map, List.getD_eq_getElem?_getD, List.getElem?_map, List.getD_eq_getElem?_getD, List.getElem?_eq_getElem hl]; rfl
    have hm : r.getD (r.length - (j + 1)) 0 ∈ r := by
      rw [List.getD_eq_getElem?_getD, List.getElem?_eq_getElem hl]; exact List.getElem_mem hl
    by_cases hv : r.getD (r.length - (j + 1)) 0 = v
    · rw [fndD_yes hv, fndD_yes (by rw [e, hv]), List.length_map]
    · rw [fndD_no hv, fndD_no (by rw [e]; exact fun he => hv (h _ hm he)), fndD_map h j (by omega)]
theorem fnd_map {r : List Int} {N : Int → Int} {v : Int} (h : ∀ x ∈ r, N x = N v → x = v) : fnd (r.map N) (N v) = fnd r v := by
  unfold fnd; rw [List.length_map]; exact fndD_map h _ (Nat.le_refl _)
theorem sub_map {r : List Int} {N : Int → Int} {v x : Int} (h1 : x ≤ r.length) (h0 : 0 ≤ x) : sub (r.map N) (N v) x = N (sub r v x) ∧ (x ≠ 0 → sub r v x ∈ r) := by
  unfold sub
  by_cases hx : x = 0
  · rw [if_pos hx, if_pos hx]; exact ⟨rfl, fun h => absurd hx h⟩
  · have hl : x.toNat - 1 < r.length := by omega
    rw [if_neg hx, if_neg hx, List.getD_eq_getElem?_getD, List.getElem?_map, List.getD_eq_getElem?_getD, List.getElem?_eq_getElem hl]
    exact ⟨rfl, fun _ => List.getElem_mem hl⟩
theorem mem_getD {α : Type} {l : List α} {x d : α} (h : x ∈ l) : ∃ j, j < l.length ∧ l.getD j d = x := by
  obtain ⟨j, hj, e⟩ := List.getElem_of_mem h
  exact ⟨j, hj, by rw [List.getD_eq_getElem?_getD, List.getElem?_eq_getElem hj]; exact e⟩
/-- the number of a value -/
def nm (w : Dw) (v : Int) : Int := ((idx (vals w w.length) v + 1 : Nat) : Int)
theorem nm_inj {w : Dw} {x v : Int} (hx : x ∈ vals w w.length) (h : nm w x = nm w v) : x = v := by
  have h1 : idx (vals w w.length) x = idx (vals w w.length) v := by unfold nm at h; omega
  have hv : v ∈ vals w w.length := by rw [← idx_lt, ← h1]; exact idx_lt.2 hx
  have h2 := idx_get hx
  rw [h1, idx_get hv] at h2
  exact (Option.some.inj h2).symm
theorem nm_num {w : Dw} {j : Nat} (hj : j < w.length) : nm w (w.getD j (0, 0)).2 = (numA w j : Int) ∧ (w.getD j (0, 0)).2 ∈ vals w w.length := by
  obtain ⟨t, ht⟩ := vals_mono w (show j + 1 ≤ w.length by omega)
  have h1 := vals_has w j
  constructor
  · unfold nm numA
    rw [ht, idx_app h1]
  · rw [ht]; exact List.mem_append_left _ h1
theorem st_can {m : M} {k s : Nat} (hm : Ok m k s) {w : Dw} (hw : firstE (datE m.I w) w.length = 0) : ∀ j, j ≤ w.length →
    stA m (canon w w.length) j = ((stA m w j).1, (stA m w j).2.map (nm w)) ∧ ∀ x ∈ (stA m w j).2, x ∈ vals w w.length
  | 0, _ => ⟨rfl, fun x hx => by simp [stA, s0] at hx⟩
  | j + 1, hj => by
    obtain ⟨h1, h2⟩ := st_can hm hw j (by omega)
    have hst := stA_ok hm hw j (by omega)
    have hd := dat_no (firstE_of_zero hw j (by omega))
    have hI := hm.I
    have ha : (w.getD j (0, 0)).1.toNat < k := by omega
    obtain ⟨n1, n2⟩ := nm_num (w := w) (j := j) (by omega)
    have hc : (canon w w.length).getD j (0, 0) = ((w.getD j (0, 0)).1, nm w (w.getD j (0, 0)).2) := by rw [can_get (by omega), n1]; rfl
    have e1 : stA m (canon w w.length) (j + 1) = nxt m (stA m (canon w w.length) j) ((canon w w.length).getD j (0, 0)).1.toNat ((canon w w.length).getD j (0, 0)).2 := rfl
    have e2 : stA m w (j + 1) = nxt m (stA m w j) (w.getD j (0, 0)).1.toNat (w.getD j (0, 0)).2 := rfl
    rw [e1, e2, h1, hc]
    generalize stA m w j = st at *
    obtain ⟨l, r⟩ := st
    dsimp only at *
    generalize (w.getD j (0, 0)).2 = v at *
    generalize (w.getD j (0, 0)).1.toNat = a at *
    have et : tOf m (l, r.map (nm w)) a (nm w v) = tOf m (l, r) a v := by
      unfold tOf
      dsimp only
      rw [fnd_map (fun x hx he => nm_inj (h2 x hx) he)]
    have tok := tOf_ok hm hst ha v
    have hlr : (r.length : Int) = nr m l := hst.r
    have hsub : ∀ x ∈ (tOf m (l, r) a v).asg, sub (r.map (nm w)) (nm w v) x = nm w (sub r v x) ∧ sub r v x ∈ vals w w.length := fun x hx => by
      obtain ⟨i, hi, ei⟩ := mem_getD (d := 0) hx
      have h3 : 0 ≤ (tOf m (l, r) a v).asg.getD i 0 ∧ (tOf m (l, r) a v).asg.getD i 0 ≤ nr m l := tok.asg i hi
      rw [ei] at h3
      have h4 := sub_map (r := r) (N := nm w) (v := v) (x := x) (by omega) h3.1
      refine ⟨h4.1, ?_⟩
      by_cases hx0 : x = 0
      · subst hx0; exact n2
      · exact h2 _ (h4.2 hx0)
    constructor
    · unfold nxt
      rw [et]
      refine Prod.ext rfl ?_
      show (tOf m (l, r) a v).asg.map _ = ((tOf m (l, r) a v).asg.map _).map _
      rw [List.map_map]
      exact List.map_congr_left fun x hx => (hsub x hx).1
    · intro x hx
      obtain ⟨y, hy, rfl⟩ := List.mem_map.1 (show x ∈ (tOf m (l, r) a v).asg.map (sub r v) from hx)
      exact (hsub y hy).2
theorem out_can {m : M} {k s : Nat} (hm : Ok m k s) {w : Dw} (hw : firstE (datE m.I w) w.length = 0) {j : Nat} (hj : j < w.length) : outA m (canon w w.length) j = outA m w j := by
  obtain ⟨h1, h2⟩ := st_can hm hw j (by omega)
  obtain ⟨n1, n2⟩ := nm_num hj
  have hc : (canon w w.length).getD j (0, 0) = ((w.getD j (0, 0)).1, nm w (w.getD j (0, 0)).2) := by rw [can_get hj, n1]; rfl
  unfold outA
  rw [h1, hc]
  unfold tOf
  dsimp only
  rw [fnd_map (fun x hx he => nm_inj (h2 x hx) he)]
/-- the run of the canonical form -/
theorem run_can (m : M) (w : Dw) : runE m (canon w w.length) = runE m w := by
  have h1 : firstE (datE m.I (canon w w.length)) w.length = firstE (datE m.I w) w.length := firstE_congr fun j hj => by
    unfold datE; rw [act_can hj]
  by_cases hl : 1024 < w.length
  · unfold runE
    rw [canon_len, if_pos hl, if_pos hl]
  unfold runE
  rw [canon_len, h1]
  by_cases hv : validE m = 0
  · obtain ⟨k, s, hm⟩ := ok_of hv
    by_cases hw : firstE (datE m.I w) w.length = 0
    · have h2 : outs m (canon w w.length) w.length = outs m w w.length := by
        unfold outs
        exact List.map_congr_left fun j hj => out_can hm hw (List.mem_range.1 hj)
      rw [h2]
    · rw [if_pos hw, if_pos hw]
  · rw [if_pos hv, if_pos hv]
end Go.Proofs.Ytaoebjabdejpoaa.Rg
