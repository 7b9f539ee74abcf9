/- The walk of the reference's Valid. -/
import Derived.Test.YtaoebjabdejpoaaMea
import Derived.Test.YtaoebjabdejpoaaApp
import Derived.Test.YtaoebjabdejpoaaProg
namespace Go.Proofs.Ytaoebjabdejpoaa
open Go.RowKit

set_option maxRecDepth 100000 in
set_option maxHeartbeats 2000000 in
theorem row_r (k S j : Nat) (A B : Option Addr) (c d : Nat) (nx out : List (List Int)) (w : World) (hN : RdM .i64 w A nx) (hO : RdM .i64 w B out)
    (hjn : j < nx.length) (hout : out.length = nx.length) :
    Calls Try.prog 44 #[.agg #[.int .i64 k, .int .i64 S, .slice A nx.length c, .slice B out.length d], .int .i64 j] w fun e w' => e = .returned (.int .i64 (Mea.rowsE k nx out j)) ∧ Below w.heap.size w w' := by
  have HO := Lib.hid hout
  have hj2 : (j : Int) < (out.length : Int) := by rw [hout]; omega
  have mn := hN.1
  clear hout
  go_enter Try.func44, Try.ntmps44
  go_wp2_with fail
  obtain ⟨wb, hwb⟩ : ∃ wb, wb = w.alloc (.cells #[.int .i64 k, .int .i64 S, .slice A nx.length c, .slice B out.length d] 52) := ⟨_, rfl⟩
  have hbel : Below w.heap.size w wb := hwb ▸ (Below.refl _ _).alloc (Nat.le_refl _) _
  have c0 : wb.cell? ⟨w.heap.size, 0, none⟩ = some (.int .i64 k) := by rw [hwb, World.cell?_alloc_at (hn := rfl)]; rfl
  have c2 : wb.cell? ⟨w.heap.size, 2, none⟩ = some (.slice A nx.length c) := by rw [hwb, World.cell?_alloc_at (hn := rfl)]; rfl
  have c3 : wb.cell? ⟨w.heap.size, 3, none⟩ = some (.slice B out.length d) := by rw [hwb, World.cell?_alloc_at (hn := rfl)]; rfl
  have rN := hN.keep hbel
  have rO := hO.keep hbel
  rw [← hwb]
  clear hwb hN hO
  obtain ⟨ad, C, e, xs, rfl, hx, cx, rx⟩ := rN.at_ hjn
  obtain ⟨ad2, D, f, os, rfl, ho, co, ro⟩ := rO.at_ (i := j) (by rw [HO.out]; exact hjn)
  have mx := rx.1
  have mo := ro.1
  by_cases h1 : xs.length = k
  · subst h1
    have b5 : ((xs.length : Int) != (xs.length : Int)) = false := by simp
    by_cases h2 : os.length = xs.length
    · have b6 : ((os.length : Int) != (xs.length : Int)) = false := by rw [bne_eq_false_iff_eq]; omega
      have H1 := Lib.hid h2
      clear h2
      go_quiet (fail)
      go_wp2_with fail
      go_loopw [5] (fun i wr => ∃ (a m' : Nat), a ≤ xs.length ∧ i = .int .i64 a ∧ wr = wb.drewN m' ∧ Hid (∀ t, t < a → Mea.cellE nx.length xs os t = 0)) (fun i _ => xs.length - (intOf i).toNat)
      case atStart => exact ⟨0, _, Nat.zero_le _, rfl, rfl, fun t ht => by omega⟩
      case round =>
        obtain ⟨a, m', ha, rfl, rfl, HC⟩ := hrel
        by_cases hax : a < xs.length
        · obtain ⟨ad3, t, rfl, ht, ct⟩ := rx.at_ hax
          obtain ⟨ad4, o, rfl, ho', co'⟩ := ro.at_ (i := a) (by rw [H1.out]; exact hax)
          have hao : (a : Int) < (os.length : Int) := by rw [H1.out]; omega
          by_cases hok : Mea.okC nx.length t o
          · have hc := Mea.cell_ok ht ho' hok
            have HCO := Lib.hid hc
            obtain ⟨q1, q2, q3, q4⟩ := hok
            have d1 : decide (t < 0) = false := by simpa using q1
            have d2 : decide ((nx.length : Int) ≤ t) = false := by simpa using q2
            have d3 : decide (o < 0) = false := by simpa using q3
            clear ht ho' hc
            go_wp2_with fail
            go_quiet (fail)
            go_wp2
            go_roundw
            case rel => exact ⟨a + 1, _, by omega, by go_num, rfl, fun t ht => by
              by_cases e : t = a
              · rw [e]; exact HCO.out
              · exact HC.out t (by omega)⟩
            case measure => simp [intOf] <;> omega
          · have hc := Mea.cell_no ht ho' hok
            have hrow : Mea.rowsE xs.length nx out j = 2 := by
              unfold Mea.rowsE
              rw [hx, ho, Mea.row_cells rfl H1.out, Mea.firstE_at HC.out (by rw [hc]; omega) hax, hc]
            have HFIN := Lib.hid hrow
            have hcase : t < 0 ∨ (0 ≤ t ∧ (nx.length : Int) ≤ t) ∨ (0 ≤ t ∧ t < nx.length ∧ o < 0) ∨ (0 ≤ t ∧ t < nx.length ∧ 0 ≤ o ∧ 1048576 < o) := by
              unfold Mea.okC at hok; omega
            clear ht ho' hc hok hrow hx ho
            rcases hcase with q | ⟨q, q1⟩ | ⟨q, q1, q2⟩ | ⟨q, q1, q2, q3⟩
            · have d1 : decide (t < 0) = true := by simpa using q
              go_wp2_with fail
              go_quiet (fail)
              go_wp2
              go_ret
              first | exact ⟨by rw [HFIN.out]; rfl, below_drewN' hbel _⟩ | exact ⟨by rw [HFIN.out]; rfl, below_drewN' (below_drewN' hbel _) _⟩
            · have d1 : decide (t < 0) = false := by simpa using q
              have d2 : decide ((nx.length : Int) ≤ t) = true := by simpa using q1
              go_wp2_with fail
              go_quiet (fail)
              go_wp2
              go_ret
              first | exact ⟨by rw [HFIN.out]; rfl, below_drewN' hbel _⟩ | exact ⟨by rw [HFIN.out]; rfl, below_drewN' (below_drewN' hbel _) _⟩
            · have d1 : decide (t < 0) = false := by simpa using q
              have d2 : decide ((nx.length : Int) ≤ t) = false := by simpa using q1
              have d3 : decide (o < 0) = true := by simpa using q2
              go_wp2_with fail
              go_quiet (fail)
              go_wp2
              go_ret
              first | exact ⟨by rw [HFIN.out]; rfl, below_drewN' hbel _⟩ | exact ⟨by rw [HFIN.out]; rfl, below_drewN' (below_drewN' hbel _) _⟩
            · have d1 : decide (t < 0) = false := by simpa using q
              have d2 : decide ((nx.length : Int) ≤ t) = false := by simpa using q1
              have d3 : decide (o < 0) = false := by simpa using q2
              go_wp2_with fail
              go_quiet (fail)
              go_wp2
              go_ret
              first | exact ⟨by rw [HFIN.out]; rfl, below_drewN' hbel _⟩ | exact ⟨by rw [HFIN.out]; rfl, below_drewN' (below_drewN' hbel _) _⟩
        · obtain rfl : a = xs.length := by omega
          have hrow : Mea.rowsE xs.length nx out j = 0 := by
            unfold Mea.rowsE
            rw [hx, ho, Mea.row_cells rfl H1.out, Mea.firstE_zero HC.out]
          have HE := Lib.hid hrow
          clear hrow hx ho
          go_wp2
          go_ret
          exact ⟨by rw [HE.out]; rfl, below_drewN' hbel _⟩
    · have hrow : Mea.rowsE xs.length nx out j = 1 := by unfold Mea.rowsE; rw [hx, ho, Mea.row_len (by omega)]
      have HFIN := Lib.hid hrow
      have b6 : ((os.length : Int) != (xs.length : Int)) = true := by rw [bne_iff_ne]; omega
      clear hrow h2 hx ho
      go_quiet (fail)
      go_wp2
      go_ret
      first | exact ⟨by rw [HFIN.out]; rfl, below_drewN' hbel _⟩ | exact ⟨by rw [HFIN.out]; rfl, below_drewN' (below_drewN' hbel _) _⟩
  · have hrow : Mea.rowsE k nx out j = 1 := by unfold Mea.rowsE; rw [hx, ho, Mea.row_len (by omega)]
    have HFIN := Lib.hid hrow
    have b6 : ((xs.length : Int) != (k : Int)) = true := by rw [bne_iff_ne]; omega
    clear hrow h1 hx ho
    go_quiet (fail)
    go_wp2
    go_ret
    first | exact ⟨by rw [HFIN.out]; rfl, below_drewN' hbel _⟩ | exact ⟨by rw [HFIN.out]; rfl, below_drewN' (below_drewN' hbel _) _⟩
set_option maxRecDepth 100000 in
set_option maxHeartbeats 1000000 in
theorem rvalid_early (I S : Int) (A B : Option Addr) (c d : Nat) (nx out : List (List Int)) (w : World) (hN : RdM .i64 w A nx) (hO : RdM .i64 w B out)
    (h : I < 1 ∨ 64 < I ∨ nx.length = 0 ∨ 128 < nx.length ∨ S < 0 ∨ (nx.length : Int) ≤ S ∨ out.length ≠ nx.length) :
    Calls Try.prog 27 #[.agg #[.int .i64 I, .int .i64 S, .slice A nx.length c, .slice B out.length d]] w fun e w' => e = .returned (.int .i64 (Mea.validE I S nx out)) ∧ Below w.heap.size w w' := by
  have hm := hN.1
  have ho := hO.1
  by_cases h1 : I < 1
  · rw [Mea.valid_I (.inl h1)]
    go_enter Try.func27, Try.ntmps27
    go_wp2
    go_ret
    exact ⟨rfl, (Below.refl _ _).alloc (Nat.le_refl _) _⟩
  by_cases h2 : 64 < I
  · rw [Mea.valid_I (.inr h2)]
    go_enter Try.func27, Try.ntmps27
    go_wp2
    go_ret
    exact ⟨rfl, (Below.refl _ _).alloc (Nat.le_refl _) _⟩
  by_cases h3 : nx.length = 0
  · rw [Mea.valid_0 (by omega) h3]
    have hb : ((nx.length : Int) == 0) = true := by simp [h3]
    clear h3 h
    go_enter Try.func27, Try.ntmps27
    go_wp2
    go_ret
    exact ⟨rfl, (Below.refl _ _).alloc (Nat.le_refl _) _⟩
  have hb : ((nx.length : Int) == 0) = false := beq_eq_false_iff_ne.2 (by omega)
  by_cases h4 : 128 < nx.length
  · rw [Mea.valid_128 (by omega) h4]
    have h4' : (128 : Int) < nx.length := by omega
    clear h
    go_enter Try.func27, Try.ntmps27
    go_wp2
    go_ret
    exact ⟨rfl, (Below.refl _ _).alloc (Nat.le_refl _) _⟩
  have h4' : ¬ (128 : Int) < nx.length := by omega
  by_cases h5 : S < 0
  · rw [Mea.valid_S (by omega) h3 (by omega) (.inl h5)]
    clear h h3
    go_enter Try.func27, Try.ntmps27
    go_wp2
    go_ret
    exact ⟨rfl, (Below.refl _ _).alloc (Nat.le_refl _) _⟩
  by_cases h6 : (nx.length : Int) ≤ S
  · rw [Mea.valid_S (by omega) h3 (by omega) (.inr h6)]
    clear h h3
    go_enter Try.func27, Try.ntmps27
    go_wp2
    go_ret
    exact ⟨rfl, (Below.refl _ _).alloc (Nat.le_refl _) _⟩
  have h7 : out.length ≠ nx.length := by omega
  rw [Mea.valid_out (by omega) h3 (by omega) (by omega) h7]
  have hb7 : ((out.length : Int) != (nx.length : Int)) = true := by rw [bne_iff_ne]; omega
  clear h h3 h7
  go_enter Try.func27, Try.ntmps27
  go_wp2
  go_ret
  exact ⟨rfl, (Below.refl _ _).alloc (Nat.le_refl _) _⟩


set_option maxRecDepth 100000 in
set_option maxHeartbeats 2000000 in
theorem rvalid_late (k S : Nat) (A B : Option Addr) (c d : Nat) (nx out : List (List Int)) (w : World) (hN : RdM .i64 w A nx) (hO : RdM .i64 w B out)
    (hk1 : 1 ≤ k) (hk2 : k ≤ 64) (hn1 : 0 < nx.length) (hn2 : nx.length ≤ 128) (hS : S < nx.length) (hout : out.length = nx.length) :
    Calls Try.prog 27 #[.agg #[.int .i64 k, .int .i64 S, .slice A nx.length c, .slice B out.length d]] w fun e w' => e = .returned (.int .i64 (Mea.firstE (Mea.rowsE k nx out) nx.length)) ∧ Below w.heap.size w w' := by
  have b1 : ((nx.length : Int) == 0) = false := beq_eq_false_iff_ne.2 (by omega)
  have b2 : ((out.length : Int) != (nx.length : Int)) = false := by rw [bne_eq_false_iff_eq]; omega
  have b3 : ¬ (128 : Int) < nx.length := by omega
  have b4 : (S : Int) < nx.length := by omega
  have b0 : ¬ (k : Int) < 1 := by omega
  have b0' : ¬ (64 : Int) < k := by omega
  have HO := Lib.hid hout
  clear hout
  go_enter Try.func27, Try.ntmps27
  go_wp2
  obtain ⟨wb, hwb⟩ : ∃ wb, wb = w.alloc (.cells #[.int .i64 k, .int .i64 S, .slice A nx.length c, .slice B out.length d] 52) := ⟨_, rfl⟩
  have hbel : Below w.heap.size w wb := hwb ▸ (Below.refl _ _).alloc (Nat.le_refl _) _
  have hsz : w.heap.size < wb.heap.size := by rw [hwb]; simp
  have c0 : wb.cell? ⟨w.heap.size, 0, none⟩ = some (.int .i64 k) := by rw [hwb, World.cell?_alloc_at (hn := rfl)]; rfl
  have c1 : wb.cell? ⟨w.heap.size, 1, none⟩ = some (.int .i64 S) := by rw [hwb, World.cell?_alloc_at (hn := rfl)]; rfl
  have c2 : wb.cell? ⟨w.heap.size, 2, none⟩ = some (.slice A nx.length c) := by rw [hwb, World.cell?_alloc_at (hn := rfl)]; rfl
  have c3 : wb.cell? ⟨w.heap.size, 3, none⟩ = some (.slice B out.length d) := by rw [hwb, World.cell?_alloc_at (hn := rfl)]; rfl
  have rN := hN.keep hbel
  have rO := hO.keep hbel
  rw [← hwb]
  clear hwb hN hO
  go_loopw [3] (fun i wr => ∃ (j : Nat), j ≤ nx.length ∧ i = .int .i64 j ∧ Below wb.heap.size wb wr ∧ Hid (∀ t, t < j → Mea.rowsE k nx out t = 0)) (fun i _ => nx.length - (intOf i).toNat)
  case atStart => exact ⟨0, Nat.zero_le _, rfl, Below.refl _ _, fun t ht => by omega⟩
  case round =>
    obtain ⟨j, hj, rfl, hb, HZ⟩ := hrel
    have d0 := (hb.cell (p := ⟨w.heap.size, 0, none⟩) hsz).trans c0
    have d1 := (hb.cell (p := ⟨w.heap.size, 1, none⟩) hsz).trans c1
    have d2 := (hb.cell (p := ⟨w.heap.size, 2, none⟩) hsz).trans c2
    have d3 := (hb.cell (p := ⟨w.heap.size, 3, none⟩) hsz).trans c3
    by_cases hjn : j < nx.length
    · by_cases he : Mea.rowsE k nx out j = 0
      · have HE := Lib.hid he
        have hbz : ((0 : Int) != 0) = false := by decide
        clear he
        go_wp2_with fail
        refine (row_r k S j A B c d nx out _ (rN.keep hb) (rO.keep hb) hjn HO.out).mono ?_
        rintro e w1 ⟨rfl, hb1⟩
        rw [HE.out]
        go_wp2
        go_roundw
        case rel => exact ⟨j + 1, by omega, by go_num, below_seq hb hb1, fun t ht => by
          by_cases e : t = j
          · rw [e]; exact HE.out
          · exact HZ.out t (by omega)⟩
        case measure => simp [intOf] <;> omega
      · have hfin : Mea.firstE (Mea.rowsE k nx out) nx.length = Mea.rowsE k nx out j := Mea.firstE_at HZ.out he hjn
        obtain ⟨q, hq⟩ : ∃ q, q = Mea.rowsE k nx out j := ⟨_, rfl⟩
        rw [← hq] at hfin he
        have hbz : (q != 0) = true := by rw [bne_iff_ne]; exact he
        have HF := Lib.hid hfin
        have HQ := Lib.hid hq
        clear hfin hq he
        go_wp2_with fail
        refine (row_r k S j A B c d nx out _ (rN.keep hb) (rO.keep hb) hjn HO.out).mono ?_
        rintro e w1 ⟨rfl, hb1⟩
        rw [← HQ.out]
        go_wp2
        go_ret
        exact ⟨by rw [HF.out]; rfl, below_seq hbel (below_seq hb hb1)⟩
    · obtain rfl : j = nx.length := by omega
      have hfin : Mea.firstE (Mea.rowsE k nx out) nx.length = 0 := Mea.firstE_zero HZ.out
      have HFIN := Lib.hid hfin
      clear hfin
      go_wp2
      go_ret
      exact ⟨by rw [HFIN.out]; rfl, below_seq hbel hb⟩

theorem rvalid (I S : Int) (A B : Option Addr) (c d : Nat) (nx out : List (List Int)) (w : World) (hN : RdM .i64 w A nx) (hO : RdM .i64 w B out) :
    Calls Try.prog 27 #[.agg #[.int .i64 I, .int .i64 S, .slice A nx.length c, .slice B out.length d]] w fun e w' => e = .returned (.int .i64 (Mea.validE I S nx out)) ∧ Below w.heap.size w w' := by
  by_cases h : I < 1 ∨ 64 < I ∨ nx.length = 0 ∨ 128 < nx.length ∨ S < 0 ∨ (nx.length : Int) ≤ S ∨ out.length ≠ nx.length
  · exact rvalid_early I S A B c d nx out w hN hO h
  · obtain ⟨k, rfl⟩ : ∃ k : Nat, I = k := ⟨I.toNat, by omega⟩
    obtain ⟨s, rfl⟩ : ∃ k : Nat, S = k := ⟨S.toNat, by omega⟩
    have := rvalid_late k s A B c d nx out w hN hO (by omega) (by omega) (by omega) (by omega) (by omega) (by omega)
    rwa [Mea.valid_rows (by omega) (by omega) (by omega) (by omega) (by omega)]
end Go.Proofs.Ytaoebjabdejpoaa
