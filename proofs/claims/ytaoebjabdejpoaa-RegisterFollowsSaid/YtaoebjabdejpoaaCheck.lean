/- The walk of word.Check: the error of a word, as a function of its symbols. -/
import Derived.Test.YtaoebjabdejpoaaProg
import Derived.Test.YtaoebjabdejpoaaLib
namespace Go.Proofs.Ytaoebjabdejpoaa
open Go.RowKit

def badB (k : Int) (a : Int) : Bool := decide (a < 0) || decide (k ≤ a)
/-- the error of a word -/
def checkE (k : Int) (xs : List Int) : Int := if k < 1 ∨ 1024 < k then 2 else if 1024 < xs.length then 3 else if xs.any (badB k) = true then 1 else 0
theorem any_or (p : Int → Bool) (xs : List Int) : (xs.any p = false ∧ ∀ j, j < xs.length → p (xs.getD j 0) = false) ∨ (xs.any p = true ∧ ∃ j, j < xs.length ∧ p (xs.getD j 0) = true ∧ ∀ i, i < j → p (xs.getD i 0) = false) := by
  induction xs with
  | nil => left; simp
  | cons x xs ih =>
    cases hx : p x
    · rcases ih with ⟨h1, h2⟩ | ⟨h1, j, h2, h3, h4⟩
      · left
        refine ⟨by simp [hx, h1], fun j hj => ?_⟩
        cases j with
        | zero => simpa using hx
        | succ j => simpa using h2 j (by simpa using hj)
      · right
        refine ⟨by simp [hx, h1], j + 1, by simpa using h2, by simpa using h3, fun i hi => ?_⟩
        cases i with
        | zero => simpa using hx
        | succ i => simpa using h4 i (by omega)
    · right; exact ⟨by simp [hx], 0, by simp, by simpa using hx, fun i hi => by omega⟩
theorem lit_any (a k : Int) (g : Nat) (w : World) (hc : w.cell? ⟨g, 0, none⟩ = some (.int .i64 k)) :
    Calls Try.prog 49 #[.int .i64 a, .pointer (some ⟨g, 0, none⟩)] w fun e w' => e = .returned (.bool (badB k a)) ∧ w = w' := by
  by_cases h1 : a < 0
  · have hb : badB k a = true := by simp [badB, h1]
    rw [hb]
    go_enter Try.func49, Try.ntmps49
    go_wp2
    go_ret
    exact ⟨rfl, rfl⟩
  · by_cases h2 : k ≤ a
    · have hb : badB k a = true := by simp [badB, h2]
      rw [hb]
      go_enter Try.func49, Try.ntmps49
      go_wp2
      go_ret
      exact ⟨rfl, rfl⟩
    · have hb : badB k a = false := by simp [badB]; omega
      rw [hb]
      go_enter Try.func49, Try.ntmps49
      go_wp2
      go_ret
      exact ⟨rfl, rfl⟩
theorem perm_yes (k : Int) (w : World) (h1 : 1 ≤ k) (h2 : k ≤ 1024) : Calls Try.prog 47 #[.int .i64 k] w fun e w' => e = .returned (.bool true) ∧ w = w' := by
  go_enter Try.func47, Try.ntmps47
  go_wp2
  go_ret
  exact ⟨rfl, rfl⟩
theorem perm_no (k : Int) (w : World) (h : k < 1 ∨ 1024 < k) : Calls Try.prog 47 #[.int .i64 k] w fun e w' => e = .returned (.bool false) ∧ w = w' := by
  by_cases h1 : k < 1
  · go_enter Try.func47, Try.ntmps47
    go_wp2
    go_ret
    exact ⟨rfl, rfl⟩
  · have h2 : 1024 < k := by omega
    go_enter Try.func47, Try.ntmps47
    go_wp2
    go_ret
    exact ⟨ret_b (by simp; omega), rfl⟩
set_option maxHeartbeats 400000 in
theorem index_none (k : Int) (g : Nat) (A : Option Addr) (c : Nat) (xs : List Int) (w : World) (h : Rd w A xs) (hc : w.cell? ⟨g, 0, none⟩ = some (.int .i64 k)) (hg : ∀ j, j < xs.length → badB k (xs.getD j 0) = false) :
    Calls Try.prog 52 #[.slice A xs.length c, .func (Fn.func 49) #[] #[.pointer (some ⟨g, 0, none⟩)]] w fun e w' => e = .returned (.int .i64 (-1)) ∧ w = w' := by
  have hm := h.1
  have HG := Lib.hid hg
  clear hg
  go_enter Try.func52, Try.ntmps52
  go_wp2
  go_loop [8] (fun i => ∃ j : Nat, j ≤ xs.length ∧ i = .int .i64 j) (fun i => xs.length - (intOf i).toNat)
  case atStart => exact ⟨0, Nat.zero_le _, rfl⟩
  case round =>
    obtain ⟨j, hj, rfl⟩ := hrel
    by_cases hjl : j < xs.length
    · obtain ⟨ad, x, rfl, hx, cx⟩ := h.at_ hjl
      have hb := HG.out j hjl
      rw [hx] at hb
      have HB := Lib.hid hb
      clear hx hb h
      go_wp2_with (go_at_call 49; refine (lit_any x k g _ hc).mono ?_; rintro e w' ⟨rfl, rfl⟩; rw [HB.out])
      go_round
      case rel => exact ⟨j + 1, by omega, by go_num⟩
      case measure => simp [intOf] <;> omega
    · go_wp2
      go_ret
      exact ⟨rfl, rfl⟩
set_option maxHeartbeats 400000 in
theorem index_some (k : Int) (g q : Nat) (A : Option Addr) (c : Nat) (xs : List Int) (w : World) (h : Rd w A xs) (hc : w.cell? ⟨g, 0, none⟩ = some (.int .i64 k)) (hq : q < xs.length) (hbad : badB k (xs.getD q 0) = true) (hg : ∀ j, j < q → badB k (xs.getD j 0) = false) :
    Calls Try.prog 52 #[.slice A xs.length c, .func (Fn.func 49) #[] #[.pointer (some ⟨g, 0, none⟩)]] w fun e w' => e = .returned (.int .i64 q) ∧ w = w' := by
  have hm := h.1
  have HG := Lib.hid hg
  have HQ := Lib.hid hbad
  clear hg hbad
  go_enter Try.func52, Try.ntmps52
  go_wp2
  go_loop [8] (fun i => ∃ j : Nat, j ≤ q ∧ i = .int .i64 j) (fun i => xs.length - (intOf i).toNat)
  case atStart => exact ⟨0, Nat.zero_le _, rfl⟩
  case round =>
    obtain ⟨j, hj, rfl⟩ := hrel
    have hjl : j < xs.length := by omega
    obtain ⟨ad, x, rfl, hx, cx⟩ := h.at_ hjl
    by_cases hjq : j < q
    · have hb := HG.out j hjq
      rw [hx] at hb
      have HB := Lib.hid hb
      clear hx hb h
      go_wp2_with (go_at_call 49; refine (lit_any x k g _ hc).mono ?_; rintro e w' ⟨rfl, rfl⟩; rw [HB.out])
      go_round
      case rel => exact ⟨j + 1, by omega, by go_num⟩
      case measure => simp [intOf] <;> omega
    · have hjq' : q = j := by omega
      subst hjq'
      have hb := HQ.out
      rw [hx] at hb
      have HB := Lib.hid hb
      clear hx hb h
      go_wp2_with (go_at_call 49; refine (lit_any x k g _ hc).mono ?_; rintro e w' ⟨rfl, rfl⟩; rw [HB.out])
      go_ret
      exact ⟨rfl, rfl⟩
theorem contains_any (k : Int) (g : Nat) (A : Option Addr) (c : Nat) (xs : List Int) (w : World) (h : Rd w A xs) (hc : w.cell? ⟨g, 0, none⟩ = some (.int .i64 k)) :
    Calls Try.prog 48 #[.slice A xs.length c, .func (Fn.func 49) #[] #[.pointer (some ⟨g, 0, none⟩)]] w fun e w' => e = .returned (.bool (xs.any (badB k))) ∧ w = w' := by
  rcases any_or (badB k) xs with ⟨h1, h2⟩ | ⟨h1, q, h2, h3, h4⟩
  · rw [h1]
    go_enter Try.func48, Try.ntmps48
    go_wp2_with (go_at_call 52; refine (index_none k g A c xs _ h hc h2).mono ?_; rintro e w' ⟨rfl, rfl⟩)
    go_ret
    exact ⟨rfl, rfl⟩
  · rw [h1]
    have hq0 : (0 : Int) ≤ q := by omega
    have H2 := Lib.hid h2
    have H3 := Lib.hid h3
    have H4 := Lib.hid h4
    clear h2 h3 h4 h1
    go_enter Try.func48, Try.ntmps48
    go_wp2_with (go_at_call 52; refine (index_some k g q A c xs _ h hc H2.out H3.out H4.out).mono ?_; rintro e w' ⟨rfl, rfl⟩)
    go_ret
    exact ⟨rfl, rfl⟩
set_option maxHeartbeats 400000 in
theorem check_any (k : Int) (A : Option Addr) (c : Nat) (xs : List Int) (w : World) (h : Rd w A xs) :
    Calls Try.prog 37 #[.slice A xs.length c, .int .i64 k] w fun e w' => e = .returned (.int .i64 (checkE k xs)) ∧ Below w.heap.size w w' := by
  have hm := h.1
  have hbx : Below w.heap.size w (w.alloc (.cells #[.int .i64 k] 3)) := (Below.refl _ _).alloc (Nat.le_refl _) _
  by_cases h1 : k < 1 ∨ 1024 < k
  · have hE : checkE k xs = 2 := by unfold checkE; rw [if_pos h1]
    rw [hE]
    have H1 := Lib.hid h1
    clear h1
    go_enter Try.func37, Try.ntmps37
    go_wp2_with (go_at_call 47; refine (perm_no k _ H1.out).mono ?_; rintro e w' ⟨rfl, rfl⟩)
    go_ret
    exact ⟨rfl, hbx⟩
  by_cases h2 : 1024 < xs.length
  · have hE : checkE k xs = 3 := by unfold checkE; rw [if_neg h1, if_pos h2]
    rw [hE]
    have h2' : (1024 : Int) < xs.length := by omega
    go_enter Try.func37, Try.ntmps37
    go_wp2_with (go_at_call 47; refine (perm_yes k _ (by omega) (by omega)).mono ?_; rintro e w' ⟨rfl, rfl⟩)
    go_ret
    exact ⟨rfl, hbx⟩
  have h2' : ¬ (1024 : Int) < xs.length := by omega
  have hk1 : 1 ≤ k := by omega
  have hk2 : k ≤ 1024 := by omega
  have rx := h.keep hbx
  have cg : (w.alloc (.cells #[.int .i64 k] 3)).cell? ⟨w.heap.size, 0, none⟩ = some (.int .i64 k) := by rw [World.cell?_alloc_at (hn := rfl)]; rfl
  cases hb : xs.any (badB k)
  · have hE : checkE k xs = 0 := by unfold checkE; rw [if_neg h1, if_neg h2, hb]; rfl
    rw [hE]
    have HB := Lib.hid hb
    clear h1 hb h
    go_enter Try.func37, Try.ntmps37
    go_wp2_with (first | (go_at_call 47; refine (perm_yes k _ hk1 hk2).mono ?_; rintro e w' ⟨rfl, rfl⟩) | (go_at_call 48; refine (contains_any k _ A c xs _ rx cg).mono ?_; rintro e w' ⟨rfl, rfl⟩; rw [HB.out]))
    go_ret
    exact ⟨rfl, hbx⟩
  · have hE : checkE k xs = 1 := by unfold checkE; rw [if_neg h1, if_neg h2, hb]; rfl
    rw [hE]
    have HB := Lib.hid hb
    clear h1 hb h
    go_enter Try.func37, Try.ntmps37
    go_wp2_with (first | (go_at_call 47; refine (perm_yes k _ hk1 hk2).mono ?_; rintro e w' ⟨rfl, rfl⟩) | (go_at_call 48; refine (contains_any k _ A c xs _ rx cg).mono ?_; rintro e w' ⟨rfl, rfl⟩; rw [HB.out]))
    go_ret
    exact ⟨rfl, hbx⟩
end Go.Proofs.Ytaoebjabdejpoaa
