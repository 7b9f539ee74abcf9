/- The walk of mealy.Valid. -/
import Derived.Test.YtpcoddbkcelaoaaMea
import Derived.Test.YtpcoddbkcelaoaaApp
import Derived.Test.YtpcoddbkcelaoaaProg
namespace Go.Proofs.Ytpcoddbkcelaoaa
open Go.RowKit

set_option maxRecDepth 100000 in
set_option maxHeartbeats 1000000 in
theorem mvalid_early (I S : Int) (A B : Option Addr) (c d : Nat) (nx out : List (List Int)) (w : World) (hN : RdM .i64 w A nx) (hO : RdM .i64 w B out)
    (h : I < 1 ∨ 64 < I ∨ nx.length = 0 ∨ 128 < nx.length ∨ S < 0 ∨ (nx.length : Int) ≤ S ∨ out.length ≠ nx.length) :
    Calls Try.prog 36 #[.agg #[.int .i64 I, .int .i64 S, .slice A nx.length c, .slice B out.length d]] w fun e w' => e = .returned (.int .i64 (Mea.validE I S nx out)) ∧ Below w.heap.size w w' := by
  have hm := hN.1
  have ho := hO.1
  by_cases h1 : I < 1
  · rw [Mea.valid_I (.inl h1)]
    go_enter Try.func36, Try.ntmps36
    go_wp2
    go_ret
    exact ⟨rfl, (Below.refl _ _).alloc (Nat.le_refl _) _⟩
  by_cases h2 : 64 < I
  · rw [Mea.valid_I (.inr h2)]
    go_enter Try.func36, Try.ntmps36
    go_wp2
    go_ret
    exact ⟨rfl, (Below.refl _ _).alloc (Nat.le_refl _) _⟩
  by_cases h3 : nx.length = 0
  · rw [Mea.valid_0 (by omega) h3]
    have hb : ((nx.length : Int) == 0) = true := by simp [h3]
    clear h3 h
    go_enter Try.func36, Try.ntmps36
    go_wp2
    go_ret
    exact ⟨rfl, (Below.refl _ _).alloc (Nat.le_refl _) _⟩
  have hb : ((nx.length : Int) == 0) = false := beq_eq_false_iff_ne.2 (by omega)
  by_cases h4 : 128 < nx.length
  · rw [Mea.valid_128 (by omega) h4]
    have h4' : (128 : Int) < nx.length := by omega
    clear h
    go_enter Try.func36, Try.ntmps36
    go_wp2
    go_ret
    exact ⟨rfl, (Below.refl _ _).alloc (Nat.le_refl _) _⟩
  have h4' : ¬ (128 : Int) < nx.length := by omega
  by_cases h5 : S < 0
  · rw [Mea.valid_S (by omega) h3 (by omega) (.inl h5)]
    clear h h3
    go_enter Try.func36, Try.ntmps36
    go_wp2
    go_ret
    exact ⟨rfl, (Below.refl _ _).alloc (Nat.le_refl _) _⟩
  by_cases h6 : (nx.length : Int) ≤ S
  · rw [Mea.valid_S (by omega) h3 (by omega) (.inr h6)]
    clear h h3
    go_enter Try.func36, Try.ntmps36
    go_wp2
    go_ret
    exact ⟨rfl, (Below.refl _ _).alloc (Nat.le_refl _) _⟩
  have h7 : out.length ≠ nx.length := by omega
  rw [Mea.valid_out (by omega) h3 (by omega) (by omega) h7]
  have hb7 : ((out.length : Int) != (nx.length : Int)) = true := by rw [bne_iff_ne]; omega
  clear h h3 h7
  go_enter Try.func36, Try.ntmps36
  go_wp2
  go_ret
  exact ⟨rfl, (Below.refl _ _).alloc (Nat.le_refl _) _⟩

theorem getD_mem_len (xss : List (List Int)) (s : Nat) (h : ∀ xs ∈ xss, xs.length ≤ 9223372036854775807) : (xss.getD s []).length ≤ 9223372036854775807 := by
  by_cases hs : s < xss.length
  · rw [List.getD_eq_getElem?_getD, List.getElem?_eq_getElem hs]; exact h _ (by simp)
  · rw [List.getD_eq_getElem?_getD, List.getElem?_eq_none (by omega)]; simp

set_option maxRecDepth 100000 in
set_option maxHeartbeats 2000000 in
theorem mvalid_late (k S : Nat) (A B : Option Addr) (c d : Nat) (nx out : List (List Int)) (w : World) (hN : RdM .i64 w A nx) (hO : RdM .i64 w B out)
    (hk1 : 1 ≤ k) (hk2 : k ≤ 64) (hn1 : 0 < nx.length) (hn2 : nx.length ≤ 128) (hS : S < nx.length) (hout : out.length = nx.length) :
    Calls Try.prog 36 #[.agg #[.int .i64 k, .int .i64 S, .slice A nx.length c, .slice B out.length d]] w fun e w' => e = .returned (.int .i64 (Mea.firstE (Mea.rowsE k nx out) nx.length)) ∧ Below w.heap.size w w' := by
  have b1 : ((nx.length : Int) == 0) = false := beq_eq_false_iff_ne.2 (by omega)
  have b2 : ((out.length : Int) != (nx.length : Int)) = false := by rw [bne_eq_false_iff_eq]; omega
  have b3 : ¬ (128 : Int) < nx.length := by omega
  have b4 : (S : Int) < nx.length := by omega
  have b0 : ¬ (k : Int) < 1 := by omega
  have b0' : ¬ (64 : Int) < k := by omega
  have HO := Lib.hid hout
  clear hout
  go_enter Try.func36, Try.ntmps36
  go_wp2
  obtain ⟨wb, hwb⟩ : ∃ wb, wb = w.alloc (.cells #[.int .i64 k, .int .i64 S, .slice A nx.length c, .slice B out.length d] 46) := ⟨_, rfl⟩
  have hbel : Below w.heap.size w wb := hwb ▸ (Below.refl _ _).alloc (Nat.le_refl _) _
  have c0 : wb.cell? ⟨w.heap.size, 0, none⟩ = some (.int .i64 k) := by rw [hwb, World.cell?_alloc_at (hn := rfl)]; rfl
  have c2 : wb.cell? ⟨w.heap.size, 2, none⟩ = some (.slice A nx.length c) := by rw [hwb, World.cell?_alloc_at (hn := rfl)]; rfl
  have c3 : wb.cell? ⟨w.heap.size, 3, none⟩ = some (.slice B out.length d) := by rw [hwb, World.cell?_alloc_at (hn := rfl)]; rfl
  have rN := hN.keep hbel
  have rO := hO.keep hbel
  rw [← hwb]
  clear hwb hN hO
  go_loopw [43] (fun i wr => ∃ (j m : Nat), j ≤ nx.length ∧ i = .int .i64 j ∧ wr = wb.drewN m ∧ Hid (∀ t, t < j → Mea.rowsE k nx out t = 0)) (fun i _ => nx.length - (intOf i).toNat)
  case atStart => exact ⟨0, 0, Nat.zero_le _, rfl, rfl, fun t ht => by omega⟩
  case round =>
    obtain ⟨j, m, hj, rfl, rfl, HZ⟩ := hrel
    by_cases hjn : j < nx.length
    · obtain ⟨ad, C, e, xs, rfl, hx, cx, rx⟩ := rN.at_ hjn
      obtain ⟨ad2, D, f, os, rfl, ho, co, ro⟩ := rO.at_ (i := j) (by rw [HO.out]; exact hjn)
      have mx := rx.1
      have mo := ro.1
      have hj2 : (j : Int) < (out.length : Int) := by rw [HO.out]; omega
      by_cases h1 : xs.length = k
      · subst h1
        have b5 : ((xs.length : Int) != (xs.length : Int)) = false := by simp
        by_cases h2 : os.length = xs.length
        · have b6 : ((os.length : Int) != (xs.length : Int)) = false := by rw [bne_eq_false_iff_eq]; omega
          go_wp2_with fail
          go_quiet (fail)
          go_wp2_with fail
          obtain ⟨wo, hwo⟩ : ∃ wo : World, wo = wb.drewN m := ⟨_, rfl⟩
          have H1 := Lib.hid h2
          clear h2
          go_loopw [68] (fun i wr => ∃ (a m' : Nat), a ≤ xs.length ∧ i = .int .i64 a ∧ wr = wb.drewN m' ∧ Hid (∀ t, t < a → Mea.cellE nx.length xs os t = 0)) (fun i _ => xs.length - (intOf i).toNat)
          case atStart => exact ⟨0, _, Nat.zero_le _, rfl, rfl, fun t ht => by omega⟩
          case round =>
            clear hwo
            obtain ⟨a, m', ha, rfl, rfl, HC⟩ := hrel
            by_cases hax : a < xs.length
            · obtain ⟨ad3, t, rfl, ht, ct⟩ := rx.at_ hax
              obtain ⟨ad4, o, rfl, ho', co'⟩ := ro.at_ (i := a) (by rw [H1.out]; exact hax)
              have hao : (a : Int) < (os.length : Int) := by rw [H1.out]; omega
              by_cases hok : Mea.okC nx.length t o
              · have hc := Mea.cell_ok ht ho' hok
                have HCO := Lib.hid hc
                obtain ⟨q1, q2, q3, q4⟩ := hok
                clear ht ho' hc
                go_wp2_with fail
                go_quiet (fail)
                go_wp2
                go_roundw
                case rel => exact ⟨a + 1, _, by omega, by go_num, rfl, fun t ht => by
                  by_cases e : t = a
                  · rw [e]; exact HCO.out
                  · exact HC.out t (by omega)⟩
                case measure => simp [intOf] <;> omega
              · have hc := Mea.cell_no ht ho' hok
                have hrow : Mea.rowE nx.length xs.length xs os = 2 := by
                  rw [Mea.row_cells rfl H1.out, Mea.firstE_at HC.out (by rw [hc]; omega) hax, hc]
                have hfin : Mea.firstE (Mea.rowsE xs.length nx out) nx.length = 2 := by
                  have e : Mea.rowsE xs.length nx out j = 2 := by unfold Mea.rowsE; rw [hx, ho, hrow]
                  rw [Mea.firstE_at HZ.out (by rw [e]; omega) hjn, e]
                have HFIN := Lib.hid hfin
                have hcase : t < 0 ∨ (0 ≤ t ∧ (nx.length : Int) ≤ t) ∨ (0 ≤ t ∧ t < nx.length ∧ o < 0) ∨ (0 ≤ t ∧ t < nx.length ∧ 0 ≤ o ∧ 1048576 < o) := by
                  unfold Mea.okC at hok; omega
                clear ht ho' hc hok hrow hfin hx ho
                rcases hcase with q | ⟨q, q1⟩ | ⟨q, q1, q2⟩ | ⟨q, q1, q2, q3⟩
                all_goals
                  go_wp2_with fail
                  go_quiet (fail)
                  go_wp2
                  go_ret
                  first | exact ⟨by rw [HFIN.out]; rfl, below_drewN' hbel _⟩ | exact ⟨by rw [HFIN.out]; rfl, below_drewN' (below_drewN' hbel _) _⟩
            · obtain rfl : a = xs.length := by omega
              have hrow : Mea.rowE nx.length xs.length xs os = 0 := by
                rw [Mea.row_cells rfl H1.out, Mea.firstE_zero HC.out]
              have e : Mea.rowsE xs.length nx out j = 0 := by unfold Mea.rowsE; rw [hx, ho, hrow]
              have HE := Lib.hid e
              clear e hrow hx ho
              go_wp2
              go_roundw
              case rel => exact ⟨j + 1, _, by omega, by go_num, rfl, fun t ht => by
                by_cases e : t = j
                · rw [e]; exact HE.out
                · exact HZ.out t (by omega)⟩
              case measure => simp [intOf] <;> omega
        · have e : Mea.rowsE xs.length nx out j = 1 := by unfold Mea.rowsE; rw [hx, ho, Mea.row_len (by omega)]
          have hfin : Mea.firstE (Mea.rowsE xs.length nx out) nx.length = 1 := by
            rw [Mea.firstE_at HZ.out (by rw [e]; omega) hjn, e]
          have HFIN := Lib.hid hfin
          have b6 : ((os.length : Int) != (xs.length : Int)) = true := by rw [bne_iff_ne]; omega
          clear e hfin h2 hx ho
          go_wp2_with fail
          go_quiet (fail)
          go_wp2
          go_ret
          first | exact ⟨by rw [HFIN.out]; rfl, below_drewN' hbel _⟩ | exact ⟨by rw [HFIN.out]; rfl, below_drewN' (below_drewN' hbel _) _⟩
      · have e : Mea.rowsE k nx out j = 1 := by unfold Mea.rowsE; rw [hx, ho, Mea.row_len (by omega)]
        have hfin : Mea.firstE (Mea.rowsE k nx out) nx.length = 1 := by
          rw [Mea.firstE_at HZ.out (by rw [e]; omega) hjn, e]
        have HFIN := Lib.hid hfin
        have b6 : ((xs.length : Int) != (k : Int)) = true := by rw [bne_iff_ne]; omega
        clear e hfin h1 hx ho
        go_wp2_with fail
        go_quiet (fail)
        go_wp2
        go_ret
        first | exact ⟨by rw [HFIN.out]; rfl, below_drewN' hbel _⟩ | exact ⟨by rw [HFIN.out]; rfl, below_drewN' (below_drewN' hbel _) _⟩
    · obtain rfl : j = nx.length := by omega
      have hfin : Mea.firstE (Mea.rowsE k nx out) nx.length = 0 := Mea.firstE_zero HZ.out
      have HFIN := Lib.hid hfin
      clear hfin
      go_wp2
      go_ret
      exact ⟨by rw [HFIN.out]; rfl, below_drewN' hbel _⟩
end Go.Proofs.Ytpcoddbkcelaoaa
