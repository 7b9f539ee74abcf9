/- Devices: the examples of the chapter, computed. -/
import Derived.Test.YtpoppadihbgbgaaDev17
import Derived.Test.YtpoppadihbgbgaaDev18
import Derived.Test.YtpoppadihbgbgaaDev19
namespace Go.Proofs.Ytpoppadihbgbgaa
open Go.RowKit

theorem drawD_bd (x : Dv) : 0 ≤ drawD x ∧ drawD x < 10000 := by
  have := Rnd.bel_lt x.seed.toNat 10000 (by omega)
  unfold drawD
  omega
/-- the device of the examples -/
def gX (l r c : Int) : Dv := { I := 2, S := 0, nx := [[1, 0], [1, 0]], out := [[1, 0], [1, 2]], st := 0, rdy := false, step := [5, 3], rs := 100, lost := l, wrong := r, crash := c, seed := 7, steps := 0, resets := 0, time := 0 }
theorem run_go {y : Dv} {a o : Int} {w out : List Int} {r : Bool} (h0 : stepE y a = 0) (hr : rdyD y (drawD y) = r) (ho : answ y (outD y a) (drawD y) = o) (h1 : 0 ≤ o) (h2 : r = true ∨ w = []) : runQ y out (a :: w) = runQ (movedR y a r) (out ++ [o]) w := by
  rw [runQ, if_pos h0, stepO_eq h0, stepX_eq h0, moved_r hr, ho, if_neg]
  rintro (h3 | ⟨h3, h4⟩)
  · omega
  · rcases h2 with h2 | h2
    · subst h2; simp [movedR] at h3
    · exact h4 h2
theorem run_stop {y : Dv} {a o : Int} {w out : List Int} {r : Bool} (h0 : stepE y a = 0) (hr : rdyD y (drawD y) = r) (ho : answ y (outD y a) (drawD y) = o) (h1 : o < 0 ∨ (r = false ∧ w ≠ [])) : runQ y out (a :: w) = (movedR y a r, [], 14) := by
  rw [runQ, if_pos h0, stepO_eq h0, stepX_eq h0, moved_r hr, ho, if_pos]
  rcases h1 with h1 | ⟨h1, h2⟩
  · exact .inl h1
  · subst h1; exact .inr ⟨rfl, h2⟩
theorem an_none {y : Dv} {o : Int} (h1 : y.lost = 0) (h2 : y.wrong = 0) : answ y o (drawD y) = o := by
  have := drawD_bd y
  exact ans_4 (by omega) (by omega)
theorem an_lost {y : Dv} {o : Int} (h1 : y.lost = 10000) : answ y o (drawD y) = -1 := by
  have := drawD_bd y
  exact ans_1 (by omega)
theorem an_wrong {y : Dv} {o : Int} (h1 : y.lost = 0) (h2 : y.wrong = 10000) (h3 : ¬ o = 1048576) : answ y o (drawD y) = o + 1 := by
  have := drawD_bd y
  exact ans_3 (by omega) (by omega) h3
theorem rd_none {y : Dv} (h1 : y.lost = 0) (h2 : y.wrong = 0) (h3 : y.crash = 0) : rdyD y (drawD y) = y.rdy := by
  have := drawD_bd y
  exact rdy_3 (by omega) (by omega)
theorem rd_some {y : Dv} (h1 : y.lost + y.wrong = 10000) : rdyD y (drawD y) = y.rdy := by
  have := drawD_bd y
  exact rdy_1 (by omega)
theorem rd_crash {y : Dv} (h1 : y.lost = 0) (h2 : y.wrong = 0) (h3 : y.crash = 10000) : rdyD y (drawD y) = false := by
  have := drawD_bd y
  exact rdy_2 (by omega) (by omega)
theorem gv_0 : validD (gX 0 0 0) = 0 := by kernel_rfl
theorem gv_l : validD (gX 10000 0 0) = 0 := by kernel_rfl
theorem gv_w : validD (gX 0 10000 0) = 0 := by kernel_rfl
theorem gv_c : validD (gX 0 0 10000) = 0 := by kernel_rfl
theorem ga_0 : qrE (gX 0 0 0) [1, 0, 1] = 0 ∧ qrO (gX 0 0 0) [1, 0, 1] = [0, 1, 2] ∧ (qrX (gX 0 0 0) [1, 0, 1]).time = 111 ∧ (qrX (gX 0 0 0) [1, 0, 1]).steps = 3 ∧ (qrX (gX 0 0 0) [1, 0, 1]).resets = 1 ∧ (qrX (gX 0 0 0) [1, 0, 1]).st = 0 ∧ (qrX (gX 0 0 0) [1, 0, 1]).rdy = true := by
  have hr : resetX (gX 0 0 0) = nextR (gX 0 0 0) := (resetX_eq (by kernel_rfl)).1
  have h : runQ (resetX (gX 0 0 0)) [] [1, 0, 1] = (movedR (movedR (movedR (nextR (gX 0 0 0)) 1 true) 0 true) 1 true, [0, 1, 2], 0) := by
    rw [hr, run_go (o := 0) (r := true) (by kernel_rfl) (rd_none rfl rfl rfl) (an_none rfl rfl) (by omega) (.inl rfl)]
    rw [run_go (o := 1) (r := true) (by kernel_rfl) (rd_none rfl rfl rfl) (an_none rfl rfl) (by omega) (.inl rfl)]
    rw [run_go (o := 2) (r := true) (by kernel_rfl) (rd_none rfl rfl rfl) (an_none rfl rfl) (by omega) (.inl rfl)]
    rfl
  obtain ⟨h1, h2, h3⟩ := qr_4 (x := gX 0 0 0) (w := [1, 0, 1]) gv_0 (by kernel_rfl) (by kernel_rfl)
  rw [h1, h2, h3, h]
  exact ⟨rfl, rfl, by kernel_rfl, by kernel_rfl, by kernel_rfl, by kernel_rfl, rfl⟩
theorem ga_l : qrE (gX 10000 0 0) [1, 0, 1] = 14 ∧ (qrX (gX 10000 0 0) [1, 0, 1]).time = 103 ∧ (qrX (gX 10000 0 0) [1, 0, 1]).steps = 1 := by
  have hr : resetX (gX 10000 0 0) = nextR (gX 10000 0 0) := (resetX_eq (by kernel_rfl)).1
  have h : runQ (resetX (gX 10000 0 0)) [] [1, 0, 1] = (movedR (nextR (gX 10000 0 0)) 1 true, [], 14) := by
    rw [hr, run_stop (o := -1) (r := true) (by kernel_rfl) (rd_some rfl) (an_lost rfl) (.inl (by omega))]
  obtain ⟨h1, h2, h3⟩ := qr_4 (x := gX 10000 0 0) (w := [1, 0, 1]) gv_l (by kernel_rfl) (by kernel_rfl)
  rw [h1, h2, h]
  exact ⟨rfl, by kernel_rfl, by kernel_rfl⟩
theorem ga_w : qrE (gX 0 10000 0) [1, 0, 1] = 0 ∧ qrO (gX 0 10000 0) [1, 0, 1] = [1, 2, 3] := by
  have hr : resetX (gX 0 10000 0) = nextR (gX 0 10000 0) := (resetX_eq (by kernel_rfl)).1
  have h : runQ (resetX (gX 0 10000 0)) [] [1, 0, 1] = (movedR (movedR (movedR (nextR (gX 0 10000 0)) 1 true) 0 true) 1 true, [1, 2, 3], 0) := by
    rw [hr, run_go (o := 1) (r := true) (by kernel_rfl) (rd_some rfl) ((an_wrong rfl rfl (by decide)).trans rfl) (by omega) (.inl rfl)]
    rw [run_go (o := 2) (r := true) (by kernel_rfl) (rd_some rfl) ((an_wrong rfl rfl (by decide)).trans rfl) (by omega) (.inl rfl)]
    rw [run_go (o := 3) (r := true) (by kernel_rfl) (rd_some rfl) ((an_wrong rfl rfl (by decide)).trans rfl) (by omega) (.inl rfl)]
    rfl
  obtain ⟨h1, h2, h3⟩ := qr_4 (x := gX 0 10000 0) (w := [1, 0, 1]) gv_w (by kernel_rfl) (by kernel_rfl)
  rw [h1, h3, h]
  exact ⟨rfl, rfl⟩
theorem ga_c : qrE (gX 0 0 10000) [0] = 0 ∧ qrO (gX 0 0 10000) [0] = [1] ∧ (qrX (gX 0 0 10000) [0]).rdy = false := by
  have hr : resetX (gX 0 0 10000) = nextR (gX 0 0 10000) := (resetX_eq (by kernel_rfl)).1
  have h : runQ (resetX (gX 0 0 10000)) [] [0] = (movedR (nextR (gX 0 0 10000)) 0 false, [1], 0) := by
    rw [hr, run_go (o := 1) (r := false) (by kernel_rfl) (rd_crash rfl rfl rfl) (an_none rfl rfl) (by omega) (.inr rfl)]
    rfl
  obtain ⟨h1, h2, h3⟩ := qr_4 (x := gX 0 0 10000) (w := [0]) gv_c (by kernel_rfl) (by kernel_rfl)
  rw [h1, h2, h3, h]
  exact ⟨rfl, rfl, rfl⟩
theorem ga_d : qrE (gX 0 0 10000) [0, 0] = 14 := by
  have hr : resetX (gX 0 0 10000) = nextR (gX 0 0 10000) := (resetX_eq (by kernel_rfl)).1
  have h : runQ (resetX (gX 0 0 10000)) [] [0, 0] = (movedR (nextR (gX 0 0 10000)) 0 false, [], 14) := by
    rw [hr, run_stop (o := 1) (r := false) (by kernel_rfl) (rd_crash rfl rfl rfl) (an_none rfl rfl) (.inr ⟨rfl, by simp⟩)]
  obtain ⟨h1, h2, h3⟩ := qr_4 (x := gX 0 0 10000) (w := [0, 0]) gv_c (by kernel_rfl) (by kernel_rfl)
  rw [h1, h]
theorem ga_s : spE (gX 0 0 0) 0 = 10 := by
  unfold spE
  rw [if_pos gv_0]
  exact step_1 rfl
theorem ga_n : coN [5, 3] 100 [1, 0, 1] = 111 ∧ coE [5, 3] 100 [1, 0, 1] = 0 := ⟨by kernel_rfl, by kernel_rfl⟩
theorem rd_lit {w : World} {g : Nat} {xs : List Int} (hl : xs.length ≤ 1000000) (h : ∀ i, i < xs.length → w.cell? ⟨g, i, none⟩ = some (.int .i64 (xs.getD i 0))) : Rd w (some ⟨g, 0, none⟩) xs := by
  refine ⟨by omega, fun _ => ⟨_, rfl, fun i hi => ?_⟩⟩
  have : (⟨g, 0, none⟩ : Addr).add i = ⟨g, i, none⟩ := by unfold Addr.add; split <;> simp_all
  rw [this]; exact h i hi
theorem rd1 {w : World} {g : Nat} {a : Int} (h : w.cell? ⟨g, 0, none⟩ = some (.int .i64 a)) : Rd w (some ⟨g, 0, none⟩) [a] :=
  rd_lit (by simp) fun i hi => match i, hi with | 0, _ => h
theorem rd2 {w : World} {g : Nat} {a b : Int} (h : w.cell? ⟨g, 0, none⟩ = some (.int .i64 a)) (h2 : w.cell? ⟨g, 1, none⟩ = some (.int .i64 b)) : Rd w (some ⟨g, 0, none⟩) [a, b] :=
  rd_lit (by simp) fun i hi => match i, hi with | 0, _ => h | 1, _ => h2
theorem rd3 {w : World} {g : Nat} {a b c : Int} (h : w.cell? ⟨g, 0, none⟩ = some (.int .i64 a)) (h2 : w.cell? ⟨g, 1, none⟩ = some (.int .i64 b)) (h3 : w.cell? ⟨g, 2, none⟩ = some (.int .i64 c)) : Rd w (some ⟨g, 0, none⟩) [a, b, c] :=
  rd_lit (by simp) fun i hi => match i, hi with | 0, _ => h | 1, _ => h2 | 2, _ => h3
theorem rdm2 {w : World} {g c d : Nat} {B C : Option Addr} {xs ys : List Int} (h : w.cell? ⟨g, 0, none⟩ = some (.slice B xs.length c)) (h' : w.cell? ⟨g, 1, none⟩ = some (.slice C ys.length d)) (hr : Rd w B xs) (hr' : Rd w C ys) : RdM .i64 w (some ⟨g, 0, none⟩) [xs, ys] := by
  refine ⟨by simp, fun _ => ⟨_, rfl, fun i hi => ?_⟩⟩
  match i, hi with
  | 0, _ => exact ⟨B, c, h, hr⟩
  | 1, _ =>
    refine ⟨C, d, ?_, hr'⟩
    have : (⟨g, 0, none⟩ : Addr).add 1 = ⟨g, 1, none⟩ := by simp [Addr.add]
    rw [this]; exact h'
end Go.Proofs.Ytpoppadihbgbgaa
