/- Devices without faults: the plain law of queries. -/
import Derived.Test.YtpoppadihbgbgaaDev29
namespace Go.Proofs.Ytpoppadihbgbgaa
open Go.RowKit

def costL (step : List Int) : List Int → Int
  | [] => 0
  | a :: w => step.getD a.toNat 0 + costL step w
theorem sumTo_take (step ws : List Int) : ∀ j, j ≤ ws.length → sumTo step ws j = costL step (ws.take j)
  | 0, _ => by simp [sumTo, costL]
  | j + 1, h => by
    have h1 : ws[j]? = some (ws.getD j 0) := by rw [List.getD_eq_getElem?_getD, List.getElem?_eq_getElem (by omega)]; rfl
    rw [sumTo, sumTo_take step ws j (by omega), List.take_add_one, h1]
    have h2 : ∀ (l : List Int) (a : Int), costL step (l ++ [a]) = costL step l + step.getD a.toNat 0 := by
      intro l a
      induction l with
      | nil => simp [costL]
      | cons b l ih => rw [List.cons_append, costL, ih, costL]; omega
    exact (h2 _ _).symm
theorem sumTo_all (step ws : List Int) : sumTo step ws ws.length = costL step ws := by rw [sumTo_take step ws _ (Nat.le_refl _), List.take_length]
/-- a device without faults that is ready, far from its limits -/
structure Fa (y : Dv) (n : Nat) : Prop where
  ok : OkD y
  l : y.lost = 0
  w : y.wrong = 0
  c : y.crash = 0
  st : y.steps + n ≤ 1125899906842624
  ti : y.time + n * 1048576 ≤ 1125899906842624
/-- what a run leaves as it was -/
structure Kept (y z : Dv) : Prop where
  I : z.I = y.I
  S : z.S = y.S
  nx : z.nx = y.nx
  out : z.out = y.out
  step : z.step = y.step
  rs : z.rs = y.rs
  lost : z.lost = y.lost
  wrong : z.wrong = y.wrong
  crash : z.crash = y.crash
  resets : z.resets = y.resets
theorem Kept.refl (y : Dv) : Kept y y := ⟨rfl, rfl, rfl, rfl, rfl, rfl, rfl, rfl, rfl, rfl⟩
theorem run_faith : ∀ (ws : List Int) (y : Dv) (acc : List Int), Fa y ws.length → y.rdy = true → (∀ a ∈ ws, 0 ≤ a ∧ a < y.I) →
    ∃ z, runQ y acc ws = (z, acc ++ outsL y.nx y.out y.st ws, 0) ∧ Kept y z ∧ z.rdy = true ∧ z.st = endL y.nx y.st ws ∧ z.steps = y.steps + ws.length ∧ z.time = y.time + costL y.step ws ∧ OkD z ∧ (0 ≤ y.seed → y.seed < 18446744073709551616 → 0 ≤ z.seed ∧ z.seed < 18446744073709551616)
  | [], y, acc, h, hr, _ => ⟨y, by rw [runQ, outsL, List.append_nil], Kept.refl y, hr, rfl, by simp, by simp [costL], h.ok, fun a b => ⟨a, b⟩⟩
  | a :: ws, y, acc, h, hr, hw => by
    have ha := hw a (List.mem_cons_self ..)
    have hlen := h.ok.len
    have hcost := h.ok.cost a.toNat (by omega)
    have h1 : outB a (y.I - 1) = false := outB_no ha.1 (by omega)
    have hst := h.st
    have hti := h.ti
    simp only [List.length_cons] at hst hti
    have e1 := h.ok.steps0
    have e2 := h.ok.time0
    have h2 : cntB (nextS y a) = true := cnt_mk (by show 0 ≤ y.steps + 1; omega) (by show y.steps + 1 ≤ _; omega) h.ok.resets0 h.ok.resets1 (by show 0 ≤ y.time + costD1 y a; unfold costD1; omega) (by show y.time + costD1 y a ≤ _; unfold costD1; omega)
    have h3 : stepE y a = 0 := step_4 hr h1 h2
    have h4 : rdyD y (drawD y) = true := (rd_none h.l h.w h.c).trans hr
    have hcell := h.ok.m.cell y.st.toNat a.toNat (by have := h.ok.st0; have := h.ok.st1; omega) (by have := h.ok.I0; omega)
    have ho : 0 ≤ outD y a := hcell.2.2.1
    rw [run_go h3 h4 (an_none h.l h.w) ho (.inl rfl)]
    have hok : OkD (movedR y a true) := by rw [← moved_r h4]; exact h.ok.moved h1 h2
    have hF : Fa (movedR y a true) ws.length := ⟨hok, h.l, h.w, h.c, by show y.steps + 1 + (ws.length : Int) ≤ _; omega, by show y.time + costD1 y a + (ws.length : Int) * 1048576 ≤ _; unfold costD1; omega⟩
    obtain ⟨z, z1, z2, z3, z4, z5, z6, z7, z8⟩ := run_faith ws (movedR y a true) (acc ++ [outD y a]) hF rfl (fun b hb => hw b (List.mem_cons_of_mem _ hb))
    refine ⟨z, ?_, ⟨z2.I, z2.S, z2.nx, z2.out, z2.step, z2.rs, z2.lost, z2.wrong, z2.crash, z2.resets⟩, z3, ?_, ?_, ?_, z7, fun _ _ => z8 (seedD_lt y).1 (seedD_lt y).2⟩
    · rw [z1, List.append_assoc]; rfl
    · rw [z4]; rfl
    · rw [z5]; show y.steps + 1 + (ws.length : Int) = _; simp only [List.length_cons]; omega
    · rw [z6]; show y.time + costD1 y a + costL y.step ws = _; unfold costD1; rw [costL]; omega
/-- a query of a device without faults -/
theorem query_faith {x : Dv} {ws : List Int} (ok : OkD x) (l : x.lost = 0) (w : x.wrong = 0) (c : x.crash = 0) (hc : checkE x.I ws = 0) (hn : ws.length ≤ 60) (h1 : x.steps ≤ 1000000) (h2 : x.resets ≤ 1000000) (h3 : x.time ≤ 10000000000) :
    qrE x ws = 0 ∧ qrO x ws = outsL x.nx x.out x.S ws ∧ ∃ z, qrX x ws = z ∧ Kept (nextR x) z ∧ z.rdy = true ∧ z.st = endL x.nx x.S ws ∧ z.steps = x.steps + ws.length ∧ z.time = x.time + x.rs + costL x.step ws ∧ z.resets = x.resets + 1 ∧ OkD z ∧ (0 ≤ x.seed → x.seed < 18446744073709551616 → 0 ≤ z.seed ∧ z.seed < 18446744073709551616) := by
  have e1 := ok.rs0
  have e2 := ok.rs1
  have e3 := ok.resets0
  have e4 := ok.time0
  have e5 := ok.steps0
  have hcnt : cntB (nextR x) = true := cnt_mk e5 ok.steps1 (by show 0 ≤ x.resets + 1; omega) (by show x.resets + 1 ≤ _; omega) (by show 0 ≤ x.time + x.rs; omega) (by show x.time + x.rs ≤ _; omega)
  have hre : resetE x = 0 := by unfold resetE; rw [if_pos hcnt]
  have hrx : resetX x = nextR x := (resetX_eq hre).1
  obtain ⟨_, _, _, hall⟩ := check_all hc
  have hF : Fa (nextR x) ws.length := ⟨ok.nextR hcnt, l, w, c, by show x.steps + (ws.length : Int) ≤ _; omega, by show x.time + x.rs + (ws.length : Int) * 1048576 ≤ _; omega⟩
  obtain ⟨z, z1, z2, z3, z4, z5, z6, z7, z8⟩ := run_faith ws (nextR x) [] hF rfl (fun a ha => by
    obtain ⟨i, hi, rfl⟩ := List.getElem_of_mem ha
    have := hall i hi
    rwa [List.getD_eq_getElem?_getD, List.getElem?_eq_getElem hi] at this)
  obtain ⟨q1, q2, q3⟩ := qr_4 ok.valid hc hre
  rw [hrx, z1] at q1 q2 q3
  exact ⟨q1, q3, z, q2, z2, z3, z4, z5, z6, z2.resets, z7, z8⟩
end Go.Proofs.Ytpoppadihbgbgaa
