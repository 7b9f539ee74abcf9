/- Devices with faults: the plain law of a query, step by step. -/
import Derived.Test.YtpoppadihbgbgaaDev30
namespace Go.Proofs.Ytpoppadihbgbgaa
open Go.RowKit

theorem kept_step (y : Dv) (a : Int) : Kept y (stepX y a) := by
  unfold stepX
  split
  · exact ⟨rfl, rfl, rfl, rfl, rfl, rfl, rfl, rfl, rfl, rfl⟩
  · exact Kept.refl y
theorem Kept.trans {x y z : Dv} (h : Kept x y) (k : Kept y z) : Kept x z :=
  ⟨k.I.trans h.I, k.S.trans h.S, k.nx.trans h.nx, k.out.trans h.out, k.step.trans h.step, k.rs.trans h.rs, k.lost.trans h.lost, k.wrong.trans h.wrong, k.crash.trans h.crash, k.resets.trans h.resets⟩
/-- a step of a device that is ready -/
theorem err_step {y : Dv} {a : Int} (hp : Pre y) (hr : y.rdy = true) (ha : 0 ≤ a ∧ a < y.I) (hs : y.steps ≤ 100) (ht : y.time ≤ 1000000000) :
    stepE y a = 0 ∧ (stepX y a).st = tarD y a ∧ (stepX y a).time = y.time + costD1 y a ∧ (stepX y a).steps = y.steps + 1 ∧ (stepO y a = -1 → 0 < y.lost) ∧ (stepO y a ≠ -1 → 0 ≤ stepO y a) ∧
    (stepO y a ≠ -1 → stepO y a ≠ outD y a → ¬ y.wrong = 0 ∧ stepO y a - outD y a ≤ 1 ∧ outD y a - stepO y a ≤ 1) ∧ ((stepX y a).rdy = false → 0 < y.crash) := by
  have ok := hp.ok
  have hlen := ok.len
  have hcost := ok.cost a.toNat (by omega)
  have h1 : outB a (y.I - 1) = false := outB_no ha.1 (by omega)
  have e1 := ok.steps0
  have e2 := ok.time0
  have h2 : cntB (nextS y a) = true := cnt_mk (by show 0 ≤ y.steps + 1; omega) (by show y.steps + 1 ≤ _; omega) ok.resets0 ok.resets1 (by show 0 ≤ y.time + costD1 y a; unfold costD1; omega) (by show y.time + costD1 y a ≤ _; unfold costD1; omega)
  have h3 : stepE y a = 0 := step_4 hr h1 h2
  have hcell := ok.m.cell y.st.toNat a.toNat (by have := ok.st0; have := ok.st1; omega) (by have := ok.I0; omega)
  have ho : 0 ≤ outD y a := hcell.2.2.1
  have ho2 : outD y a ≤ 1048576 := hcell.2.2.2
  have hv := drawD_bd y
  have l0 := ok.lost0
  have w0 := ok.wrong0
  have c0 := ok.crash0
  rw [stepX_eq h3, stepO_eq h3]
  refine ⟨h3, rfl, rfl, rfl, ?_, ?_, ?_, ?_⟩
  · unfold answ; split
    · omega
    · split
      · omega
      · split <;> omega
  · unfold answ; split
    · omega
    · split
      · omega
      · split <;> omega
  · unfold answ; split
    · omega
    · split
      · omega
      · split <;> omega
  · show rdyD y (drawD y) = false → _
    unfold rdyD; split
    · rw [hr]; intro h; cases h
    · split
      · omega
      · rw [hr]; intro h; cases h
def EInv (R : Dv × List Int × Int) (x y : Dv) (ws acc : List Int) : Prop :=
  Pre y ∧ Kept x y ∧ y.steps = acc.length ∧ y.time ≤ (acc.length + 1) * 1048576 ∧ (y.rdy = true → runQ y acc (ws.drop acc.length) = R) ∧ (y.rdy = false → 0 < x.crash ∧ (acc.length < ws.length → R = (y, [], 14)) ∧ (¬ acc.length < ws.length → R = (y, acc, 0)))
theorem EInv.fin {R : Dv × List Int × Int} {x y : Dv} {ws acc : List Int} (h : EInv R x y ws acc) (hj : acc.length = ws.length) : R = (y, acc, 0) := by
  obtain ⟨_, _, _, _, h1, h2⟩ := h
  cases hr : y.rdy with
  | true => rw [← h1 hr, hj]; exact runQ_end _ _ _
  | false => exact (h2 hr).2.2 (by omega)
theorem EInv.go {R : Dv × List Int × Int} {x y : Dv} {ws acc : List Int} {a : Int} (h : EInv R x y ws acc) (hj : acc.length < ws.length) (hr : y.rdy = true) (ha : ws.getD acc.length 0 = a) (hb : 0 ≤ a ∧ a < y.I) (hs : y.steps ≤ 100) (ht : y.time ≤ 1000000000) (hne : stepO y a ≠ -1) : EInv R x (stepX y a) ws (acc ++ [stepO y a]) := by
  obtain ⟨hp, hk, h3, h4, h5, _⟩ := h
  obtain ⟨s1, _, s3, s4, _, s6, _, s8⟩ := err_step hp hr hb hs ht
  have s6' := s6 hne
  have hcost := hp.ok.cost a.toNat (by have := hp.ok.len; omega)
  have hR := h5 hr
  refine ⟨hp.stepX a, hk.trans (kept_step y a), by rw [s4, h3]; simp, ?_, fun hr2 => ?_, fun hr2 => ⟨by rw [← hk.crash]; exact s8 hr2, fun hl => ?_, fun hl => ?_⟩⟩
  · rw [s3, List.length_append, List.length_singleton]; unfold costD1; omega
  · rw [← hR, runQ_go hj (by rw [ha]; exact s1) (by rw [ha]; omega) (.inl (by rw [ha]; exact hr2)), ha, List.length_append]; rfl
  · rw [List.length_append, List.length_singleton] at hl
    rw [← hR, runQ_rdy hj (by rw [ha]; exact s1) (by rw [ha]; exact hr2) hl, ha]
  · rw [List.length_append, List.length_singleton] at hl
    rw [← hR, runQ_go hj (by rw [ha]; exact s1) (by rw [ha]; omega) (.inr hl), ha]
    have : acc.length + 1 = ws.length := by omega
    rw [this]; exact runQ_end _ _ _
theorem EInv.lost {R : Dv × List Int × Int} {x y : Dv} {ws acc : List Int} {a : Int} (h : EInv R x y ws acc) (hj : acc.length < ws.length) (hr : y.rdy = true) (ha : ws.getD acc.length 0 = a) (hb : 0 ≤ a ∧ a < y.I) (hs : y.steps ≤ 100) (ht : y.time ≤ 1000000000) (hne : stepO y a = -1) : R = (stepX y a, [], 14) ∧ 0 < x.lost := by
  obtain ⟨hp, hk, _, _, h5, _⟩ := h
  obtain ⟨s1, _, _, _, s5, _⟩ := err_step hp hr hb hs ht
  exact ⟨by rw [← h5 hr, runQ_neg hj (by rw [ha]; exact s1) (by rw [ha]; omega), ha], by rw [← hk.lost]; exact s5 hne⟩
theorem EInv.start {x : Dv} (hp : Pre (newX x)) (ws : List Int) : resetE (newX x) = 0 ∧ resetX (newX x) = nextR (newX x) ∧ EInv (runQ (nextR (newX x)) [] ws) (nextR (newX x)) (nextR (newX x)) ws [] := by
  have ok := hp.ok
  have r0 : (0 : Int) ≤ x.rs := ok.rs0
  have r1 : x.rs ≤ 1048576 := ok.rs1
  have hcnt : cntB (nextR (newX x)) = true := cnt_mk (show (0 : Int) ≤ 0 by decide) (show (0 : Int) ≤ _ by decide) (show (0 : Int) ≤ 0 + 1 by decide) (show (0 : Int) + 1 ≤ _ by decide) (by show 0 ≤ 0 + x.rs; omega) (by show 0 + x.rs ≤ _; omega)
  have hre : resetE (newX x) = 0 := by unfold resetE; rw [if_pos hcnt]
  refine ⟨hre, (resetX_eq hre).1, ⟨ok.nextR hcnt, hp.s0, hp.s1⟩, Kept.refl _, rfl, ?_, fun _ => rfl, fun h => by cases h⟩
  show 0 + x.rs ≤ _
  simp; omega
theorem lost_all {x : Dv} {ws : List Int} (hp : Pre (newX x)) (hl : x.lost = 10000) (hc : checkE x.I ws = 0) (hn : 0 < ws.length) : (runQ (nextR (newX x)) [] ws).2.2 = 14 := by
  obtain ⟨_, _, hE⟩ := EInv.start hp ws
  obtain ⟨_, _, _, hall⟩ := check_all hc
  have h := hE
  obtain ⟨hp2, _⟩ := hE
  have r1 : x.rs ≤ 1048576 := hp.ok.rs1
  have hne : stepO (nextR (newX x)) (ws.getD 0 0) = -1 := by
    have := err_step hp2 rfl (hall 0 hn) (show (0 : Int) ≤ 100 by decide) (by show 0 + x.rs ≤ _; omega)
    rw [stepO_eq this.1]
    exact an_lost hl
  rw [(EInv.lost h hn rfl rfl (hall 0 hn) (show (0 : Int) ≤ 100 by decide) (by show 0 + x.rs ≤ _; omega) hne).1]
end Go.Proofs.Ytpoppadihbgbgaa
