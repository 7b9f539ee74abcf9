/- What the functions of chapter 39 hand back, as slices that read lists. -/
import Derived.Test.YtaoebjabdejpoaaRunR
import Derived.Test.YtaoebjabdejpoaaRgB
import Derived.Test.YtaoebjabdejpoaaSymR
import Derived.Test.YtaoebjabdejpoaaDat
import Derived.Test.YtaoebjabdejpoaaCanR
namespace Go.Proofs.Ytaoebjabdejpoaa
open Go.RowKit

namespace Rg
theorem run_len (m : M) (w : Dw) : (runE m w).2.length ≤ 1024 := by
  unfold runE
  split
  · simp
  split
  · simp
  split
  · simp
  · rw [outs_len]; omega
theorem sym_len (w : Dw) (a d : Int) : (symE w a d).2.length ≤ 1024 := by
  unfold symE
  split
  · simp
  split
  · simp
  split
  · simp
  · rw [syms_len]; omega
theorem dat_len (w : List Int) (a d : Int) : (datX w a d).2.length ≤ 1024 := by
  unfold datX
  split
  · simp
  split
  · simp
  rename_i h
  split
  · simp
  · rw [dats_len]
    unfold wordE at h
    split at h
    · simp at h
    split at h
    · simp at h
    · omega
end Rg
theorem lst_i {X : Int × List Int} {w w' : World} {r : Ending} (h : LstP elI 1 3 X w r w') (hl : X.2.length ≤ 2000) :
    (∃ A c, r = .returned (.tuple #[.slice A X.2.length c, .int .i64 X.1]) ∧ Rd w' A X.2) ∧ Below w.heap.size w w' := by
  obtain ⟨⟨v, hv, ho⟩, hb⟩ := h
  obtain ⟨A, c, rfl⟩ := own_slice ho
  exact ⟨⟨A, c, hv, (own_rdi ho (by omega)).2⟩, hb⟩
theorem lst_d {X : Int × Rg.Dw} {w w' : World} {r : Ending} (h : LstP elD 2 63 X w r w') (hl : X.2.length ≤ 2000) :
    (∃ A c, r = .returned (.tuple #[.slice A X.2.length c, .int .i64 X.1]) ∧ Rd2 w' A X.2) ∧ Below w.heap.size w w' := by
  obtain ⟨⟨v, hv, ho⟩, hb⟩ := h
  obtain ⟨A, c, rfl⟩ := own_slice ho
  exact ⟨⟨A, c, hv, (own_rd2 ho (by omega)).2⟩, hb⟩
theorem can_d {q : Rg.Dw} {w w' : World} {r : Ending} (h : (∃ v, r = .returned v ∧ OwnL elD 2 w' w.heap.size 63 v q) ∧ Below w.heap.size w w') (hl : q.length ≤ 2000) :
    (∃ A c, r = .returned (.slice A q.length c) ∧ Rd2 w' A q) ∧ Below w.heap.size w w' := by
  obtain ⟨⟨v, hv, ho⟩, hb⟩ := h
  obtain ⟨A, c, rfl⟩ := own_slice ho
  exact ⟨⟨A, c, hv, (own_rd2 ho (by omega)).2⟩, hb⟩
section
variable (m : Rg.M) (A B : Option Addr) (c d : Nat) (w : World)
abbrev regV (m : Rg.M) (A B : Option Addr) (c d : Nat) : Value := .agg #[.int .i64 m.I, .int .i64 m.S, .slice A m.rg.length c, .slice B m.tr.length d]
theorem runP_t (ws : Rg.Dw) (C : Option Addr) (e : Nat) (hR : RdA w A B m) (hW : Rd2 w C ws) :
    Calls Try.prog 11 #[regV m A B c d, .slice C ws.length e] w fun r w' => (∃ A c, r = .returned (.tuple #[.slice A (Rg.runE m ws).2.length c, .int .i64 (Rg.runE m ws).1]) ∧ Rd w' A (Rg.runE m ws).2) ∧ Below w.heap.size w w' :=
  (run_p m ws A B C c d e w hR hW).mono fun _ _ h => lst_i h (by have := Rg.run_len m ws; omega)
theorem runR_t (ws : Rg.Dw) (C : Option Addr) (e : Nat) (hR : RdA w A B m) (hW : Rd2 w C ws) :
    Calls Try.prog 12 #[regV m A B c d, .slice C ws.length e] w fun r w' => (∃ A c, r = .returned (.tuple #[.slice A (Rg.runE m ws).2.length c, .int .i64 (Rg.runE m ws).1]) ∧ Rd w' A (Rg.runE m ws).2) ∧ Below w.heap.size w w' :=
  (run_r m ws A B C c d e w hR hW).mono fun _ _ h => lst_i h (by have := Rg.run_len m ws; omega)
end
section
variable (ws : Rg.Dw) (xs : List Int) (a d : Int) (A : Option Addr) (c : Nat) (w : World)
theorem symP_t (hR : Rd2 w A ws) (hwf : WfW ws) (hlen : ws.length ≤ 2000) :
    Calls Try.prog 16 #[.slice A ws.length c, .int .i64 a, .int .i64 d] w fun r w' => (∃ A c, r = .returned (.tuple #[.slice A (Rg.symE ws a d).2.length c, .int .i64 (Rg.symE ws a d).1]) ∧ Rd w' A (Rg.symE ws a d).2) ∧ Below w.heap.size w w' :=
  (symbols_p ws a d A c w hR hwf hlen).mono fun _ _ h => lst_i h (by have := Rg.sym_len ws a d; omega)
theorem symR_t (hR : Rd2 w A ws) (hlen : ws.length ≤ 2000) :
    Calls Try.prog 17 #[.slice A ws.length c, .int .i64 a, .int .i64 d] w fun r w' => (∃ A c, r = .returned (.tuple #[.slice A (Rg.symE ws a d).2.length c, .int .i64 (Rg.symE ws a d).1]) ∧ Rd w' A (Rg.symE ws a d).2) ∧ Below w.heap.size w w' :=
  (symbols_r ws a d A c w hR hlen).mono fun _ _ h => lst_i h (by have := Rg.sym_len ws a d; omega)
theorem datP_t (hR : Rd w A xs) :
    Calls Try.prog 21 #[.slice A xs.length c, .int .i64 a, .int .i64 d] w fun r w' => (∃ A c, r = .returned (.tuple #[.slice A (Rg.datX xs a d).2.length c, .int .i64 (Rg.datX xs a d).1]) ∧ Rd2 w' A (Rg.datX xs a d).2) ∧ Below w.heap.size w w' :=
  (data_p xs a d A c w hR).mono fun _ _ h => lst_d h (by have := Rg.dat_len xs a d; omega)
theorem datR_t (hR : Rd w A xs) :
    Calls Try.prog 22 #[.slice A xs.length c, .int .i64 a, .int .i64 d] w fun r w' => (∃ A c, r = .returned (.tuple #[.slice A (Rg.datX xs a d).2.length c, .int .i64 (Rg.datX xs a d).1]) ∧ Rd2 w' A (Rg.datX xs a d).2) ∧ Below w.heap.size w w' :=
  (data_r xs a d A c w hR).mono fun _ _ h => lst_d h (by have := Rg.dat_len xs a d; omega)
theorem canP_t (hR : Rd2 w A ws) (hwf : WfW ws) (hlen : ws.length ≤ 2000) :
    Calls Try.prog 19 #[.slice A ws.length c] w fun r w' => (∃ A c, r = .returned (.slice A (Rg.canon ws ws.length).length c) ∧ Rd2 w' A (Rg.canon ws ws.length)) ∧ Below w.heap.size w w' :=
  (canon_p ws A c w hR hwf hlen).mono fun _ _ h => can_d h (by rw [Rg.canon_len]; omega)
theorem canR_t (hR : Rd2 w A ws) (hlen : ws.length ≤ 2000) :
    Calls Try.prog 20 #[.slice A ws.length c] w fun r w' => (∃ A c, r = .returned (.slice A (Rg.canon ws ws.length).length c) ∧ Rd2 w' A (Rg.canon ws ws.length)) ∧ Below w.heap.size w w' :=
  (canon_r ws A c w hR hlen).mono fun _ _ h => can_d h (by rw [Rg.canon_len]; omega)
end
/-! ### comparisons -/
theorem ints_b (A B : Option Addr) (n m c d : Nat) (xs ys : List Int) (w : World) (hn : n = xs.length) (hm : m = ys.length) (h : Rd w A xs) (g : Rd w B ys) :
    Calls Try.prog 15 #[.slice A n c, .slice B m d] w fun e w' => e = .returned (.bool (decide (xs = ys))) ∧ Below w.heap.size w w' := by
  subst hn hm
  exact (ints_r A B c d xs ys w h g).mono fun _ _ ⟨he, n, hw⟩ => ⟨he, hw ▸ below_drewN' (Below.refl _ _) n⟩
theorem data_b (A B : Option Addr) (n m c d : Nat) (xs ys : Rg.Dw) (w : World) (hn : n = xs.length) (hm : m = ys.length) (h : Rd2 w A xs) (g : Rd2 w B ys) :
    Calls Try.prog 18 #[.slice A n c, .slice B m d] w fun e w' => e = .returned (.bool (decide (xs = ys))) ∧ Below w.heap.size w w' := by
  subst hn hm
  exact (samedata_r A B c d xs ys w h g).mono fun _ _ ⟨he, n, hw⟩ => ⟨he, hw ▸ below_drewN' (Below.refl _ _) n⟩
end Go.Proofs.Ytaoebjabdejpoaa
