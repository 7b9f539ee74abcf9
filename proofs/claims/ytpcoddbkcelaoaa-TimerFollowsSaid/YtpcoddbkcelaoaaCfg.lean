/- Configurations of the reference: a list of bools is copied, compared; is a symbol possible. -/
import Derived.Test.YtpcoddbkcelaoaaMem
namespace Go.Proofs.Ytpcoddbkcelaoaa
open Go.RowKit

/-- a slice of bools that reads as a list -/
def RdB (w : World) (A : Option Addr) (xs : List Bool) : Prop :=
  xs.length ≤ 9223372036854775807 ∧ (0 < xs.length → ∃ ad, A = some ad ∧ ∀ i, i < xs.length → w.cell? (ad.add i) = some (.bool (xs.getD i false)))
theorem RdB.at_ {w : World} {A : Option Addr} {xs : List Bool} (h : RdB w A xs) {i : Nat} (hi : i < xs.length) : ∃ ad x, A = some ad ∧ xs.getD i false = x ∧ w.cell? (ad.add i) = some (.bool x) := by
  obtain ⟨ad, e, hc⟩ := h.2 (by omega)
  exact ⟨ad, _, e, rfl, hc i hi⟩
theorem RdB.keep {w w' : World} {A : Option Addr} {xs : List Bool} (h : RdB w A xs) (hb : Below w.heap.size w w') : RdB w' A xs := by
  refine ⟨h.1, fun hp => ?_⟩
  obtain ⟨ad, e, hc⟩ := h.2 hp
  exact ⟨ad, e, fun i hi => keep_cell hb (hc i hi)⟩
theorem RdB.drewN {w : World} {A : Option Addr} {xs : List Bool} (h : RdB w A xs) (n : Nat) : RdB (w.drewN n) A xs := h
theorem add_off (b i : Nat) : (⟨b, 0, none⟩ : Addr).add i = ⟨b, i, none⟩ := by unfold Addr.add; split <;> simp_all
/-- a row of bools of the call's own reads as a list -/
theorem rowB_rd {w : World} {g n : Nat} {xs : List Bool} (h : w.rowIs g 4 n (fun x => .bool (xs.getD x false))) (hl : xs.length = n) (hn : n ≤ 1000) : RdB w (some ⟨g, 0, none⟩) xs := by
  refine ⟨by omega, fun _ => ⟨_, rfl, fun i hi => ?_⟩⟩
  rw [add_off]; exact h.cell (by omega)

theorem info4 : (Try.prog.info? 4).map (fun i => (i.zero, i.size, i.bytes)) = some (some (.bool false), 1, 1) := by kernel_rfl
set_option maxHeartbeats 400000 in
theorem copied_r (A : Option Addr) (c : Nat) (xs : List Bool) (w : World) (h : RdB w A xs) (hl : xs.length ≤ 1000) :
    Calls Try.prog 44 #[.slice A xs.length c] w fun e w' => e = .returned (.slice (some ⟨w.heap.size, 0, none⟩) xs.length xs.length) ∧ w'.rowIs w.heap.size 4 xs.length (fun x => .bool (xs.getD x false)) ∧ Below w.heap.size w w' := by
  have hm := h.1
  have hmk := run_make_row' (P := Try.prog) 62 4 (.bool false) 1 Try.underlying62 info4 rfl .i64 .i64 xs.length (by omega) (by omega)
  go_enter Try.func44, Try.ntmps44
  go_wp2
  go_loopw [4] (fun i wr => ∃ j : Nat, j ≤ xs.length ∧ i = .int .i64 j ∧ wr.rowIs w.heap.size 4 xs.length (fun x => .bool (if x < j then xs.getD x false else false)) ∧ Below w.heap.size w wr) (fun i _ => xs.length - (intOf i).toNat)
  case atStart => exact ⟨0, Nat.zero_le _, rfl, (World.rowIs_made w _ xs.length 4).congr (fun i _ => by simp), (Below.refl _ _).alloc (Nat.le_refl _) _⟩
  case round =>
    obtain ⟨j, hj, rfl, hrow, hbel⟩ := hrel
    by_cases hjl : j < xs.length
    · obtain ⟨ad, x, rfl, hx, cx⟩ := (h.keep hbel).at_ hjl
      have HX := Lib.hid hx
      have hc := hrow.cell hjl
      have hf := hrow.frozen j
      clear hx h
      go_wp2
      go_roundw
      case rel =>
        refine ⟨j + 1, by omega, by go_num, (hrow.set j _).congr (fun i hi => ?_), hbel.setCell (Nat.le_refl _) _⟩
        by_cases e : i = j
        · subst e; rw [if_pos rfl, if_pos (by omega), HX.out]
        · have : i < j ↔ i < j + 1 := by omega
          simp [e, this]
      case measure => simp [intOf] <;> omega
    · have hrow := hrow.congr (g := fun x => .bool (xs.getD x false)) (fun i hi => by rw [if_pos (by omega)])
      clear hmk h
      go_wp2
      go_ret
      exact ⟨rfl, hrow, hbel⟩
theorem eqB_step (xs ys : List Bool) (hl : xs.length = ys.length) (h : ∀ t, t < xs.length → xs.getD t false = ys.getD t false) : xs = ys := by
  apply List.ext_getElem hl
  intro i h1 h2
  have := h i h1
  rw [List.getD_eq_getElem?_getD, List.getD_eq_getElem?_getD, List.getElem?_eq_getElem h1, List.getElem?_eq_getElem h2] at this
  simpa using this
set_option maxHeartbeats 400000 in
theorem equal_r (A B : Option Addr) (c d : Nat) (xs ys : List Bool) (w : World) (h : RdB w A xs) (g : RdB w B ys) (hl : xs.length = ys.length) :
    Calls Try.prog 29 #[.slice A xs.length c, .slice B ys.length d] w fun e w' => e = .returned (.bool (decide (xs = ys))) ∧ ∃ n, w' = w.drewN n := by
  have hm := h.1
  have HL := Lib.hid hl
  clear hl
  go_enter Try.func29, Try.ntmps29
  go_wp2
  go_loopw [5] (fun i wr => ∃ j n : Nat, j ≤ xs.length ∧ i = .int .i64 j ∧ wr = w.drewN n ∧ Hid (∀ t, t < j → xs.getD t false = ys.getD t false)) (fun i _ => xs.length - (intOf i).toNat)
  case atStart => exact ⟨0, 0, Nat.zero_le _, rfl, rfl, Lib.hid (fun t ht => by omega)⟩
  case round =>
    obtain ⟨j, n, hj, rfl, rfl, HZ⟩ := hrel
    by_cases hjl : j < xs.length
    · obtain ⟨ad, x, rfl, hx, cx⟩ := h.at_ hjl
      obtain ⟨bd, y, rfl, hy, cy⟩ := g.at_ (i := j) (by rw [← HL.out]; exact hjl)
      have hjy : (j : Int) < (ys.length : Int) := by rw [← HL.out]; omega
      have HX := Lib.hid hx
      have HY := Lib.hid hy
      clear hx hy h g
      by_cases hxy : x = y
      · have hb : (!(x == y)) = false := by simpa using hxy
        have HXY := Lib.hid hxy
        clear hxy
        go_wp2_with fail
        go_quiet (fail)
        go_wp2
        go_roundw
        case rel =>
          refine ⟨j + 1, _, by omega, by go_num, rfl, Lib.hid (fun t ht => ?_)⟩
          by_cases e : t = j
          · rw [e, HX.out, HY.out, HXY.out]
          · exact HZ.out t (by omega)
        case measure => simp [intOf] <;> omega
      · have hb : (!(x == y)) = true := by simpa using hxy
        have HFIN := Lib.hid (show decide (xs = ys) = false by rw [decide_eq_false_iff_not]; intro e; apply hxy; rw [← HX.out, ← HY.out, e])
        clear hxy
        go_wp2_with fail
        go_quiet (fail)
        go_wp2
        go_ret
        exact ⟨by rw [HFIN.out]; rfl, dd _ _ _⟩
    · obtain rfl : j = xs.length := by omega
      have HFIN := Lib.hid (show decide (xs = ys) = true by rw [decide_eq_true_iff]; exact eqB_step xs ys HL.out HZ.out)
      clear h g
      go_wp2
      go_ret
      exact ⟨by rw [HFIN.out]; rfl, _, rfl⟩
/-- is a symbol possible -/
theorem poss_r (m : Tm.M) (k T i : Nat) (cf : Tm.Cfg) (A B C R : Option Addr) (c d e r : Nat) (w : World) (hI : m.I = k) (hi : i < k + T) (ht : T ≤ 4) (hcf : cf.2.length = T) (hB : RdB w R cf.2) :
    Calls Try.prog 37 #[.agg #[.int .i64 m.I, .int .i64 m.T, .int .i64 m.S, .slice A m.nx.length c, .slice B m.out.length d, .slice C m.set.length e], .agg #[.int .i64 cf.1, .slice R cf.2.length r], .int .i64 i] w fun e w' => e = .returned (.bool (Tm.poss k cf i)) ∧ Below w.heap.size w w' := by
  rw [hI]
  have HT := Lib.hid hcf
  have hcl : cf.2.length ≤ 4 := by omega
  have hil : i < k + cf.2.length := by omega
  clear hcf hi
  have hbel : Below w.heap.size w ((w.alloc (.cells #[.int .i64 k, .int .i64 m.T, .int .i64 m.S, .slice A m.nx.length c, .slice B m.out.length d, .slice C m.set.length e] 25)).alloc (.cells #[.int .i64 cf.1, .slice R cf.2.length r] 74)) := ((Below.refl _ _).alloc (Nat.le_refl _) _).alloc (by simp) _
  by_cases h : i < k
  · have HE := Lib.hid (show Tm.poss k cf i = true by unfold Tm.poss; simp [h])
    have h' : (i : Int) < k := by omega
    clear hB hI
    go_enter Try.func37, Try.ntmps37
    go_wp2
    go_ret
    exact ⟨by rw [HE.out]; rfl, hbel⟩
  · obtain ⟨x, rfl⟩ : ∃ x, i = k + x := ⟨i - k, by omega⟩
    have hx : x < cf.2.length := by omega
    obtain ⟨ad, b, rfl, hb, cb⟩ := (hB.keep hbel).at_ hx
    have HE := Lib.hid (show Tm.poss k cf (k + x) = b by unfold Tm.poss; rw [show k + x - k = x by omega, hb, decide_eq_false (by omega)]; rfl)
    have h' : ¬ ((k : Int) + (x : Int) < (k : Int)) := by omega
    have h2 : (k : Int) + (x : Int) - (k : Int) = x := by omega
    have hm := hB.1
    clear hB hI hb
    go_enter Try.func37, Try.ntmps37
    go_wp2
    go_ret
    exact ⟨by rw [HE.out]; rfl, hbel⟩
end Go.Proofs.Ytpcoddbkcelaoaa
