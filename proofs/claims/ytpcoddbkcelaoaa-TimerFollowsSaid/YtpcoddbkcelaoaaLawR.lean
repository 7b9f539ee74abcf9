/- The walk of the statement TimerRuns. -/
import Derived.Test.YtpcoddbkcelaoaaAwk
import Derived.Test.YtpcoddbkcelaoaaRunR
import Derived.Test.YtpcoddbkcelaoaaSmal
import Derived.Test.YtpcoddbkcelaoaaOpenT
namespace Go.Proofs.Ytpcoddbkcelaoaa
open Go.RowKit

theorem runE_len (m : Tm.M) (wd : List (Int × Int)) (en : Int) : (runE m wd en).2.length ≤ 10000 := by
  unfold runE
  split
  · simp
  · split
    · simp
    · unfold Tm.runV Tm.stop
      split
      · simp
      · split
        · simp
        · simp; omega
theorem small_eq {m : Tm.M} {A B C : Option Addr} {w : World} {b : Bool} (c d e : Nat) (h : RdT w A B C m) (hb : small m = b) :
    Calls Try.prog 9 #[.agg #[.int .i64 m.I, .int .i64 m.T, .int .i64 m.S, .slice A m.nx.length c, .slice B m.out.length d, .slice C m.set.length e]] w fun r w' => r = .returned (.bool b) ∧ Below w.heap.size w w' := by
  subst hb
  exact small_r m A B C c d e w h.nx.1 h.out.1 h.set.1
/-- events that a run has handed back -/
def EvP (e : Int) (L : List Tm.Ev) (w : World) (r : Ending) (w' : World) : Prop :=
  (∃ X x, r = .returned (.tuple #[.slice X L.length x, .int .i64 e]) ∧ RdL evC 3 w' X L) ∧ Below w.heap.size w w'
theorem EvP.of {m : Tm.M} {wd : List (Int × Int)} {en : Int} {w w' : World} {r : Ending} {e : Int} {L : List Tm.Ev} (hE : runE m wd en = (e, L)) (h : RunP (runE m wd en) w r w') : EvP e L w r w' := by
  have hl := runE_len m wd en
  rw [hE] at h hl
  obtain ⟨⟨v, hv, ho⟩, hb⟩ := h
  obtain ⟨X, x, rfl⟩ := ho.form
  refine ⟨⟨X, x, hv, (ho.rd evC_len ?_).2⟩, hb⟩
  have : L.length ≤ 10000 := hl
  omega
theorem run_pE {m : Tm.M} {A B C D : Option Addr} {c d e f : Nat} {wd : List (Int × Int)} {en : Int} {w : World} {x : Int} {L : List Tm.Ev} (hE : runE m wd en = (x, L)) (hR : RdT w A B C m) (hD : Rd2 w D wd) :
    Calls Try.prog 16 #[.agg #[.int .i64 m.I, .int .i64 m.T, .int .i64 m.S, .slice A m.nx.length c, .slice B m.out.length d, .slice C m.set.length e], .slice D wd.length f, .int .i64 en] w (EvP x L w) :=
  (run_p m A B C D c d e f wd en w hR hD).mono fun _ _ h => EvP.of hE h
theorem run_rE {m : Tm.M} {A B C D : Option Addr} {c d e f : Nat} {wd : List (Int × Int)} {en : Int} {w : World} {x : Int} {L : List Tm.Ev} (hE : runE m wd en = (x, L)) (hR : RdT w A B C m) (hD : Rd2 w D wd) :
    Calls Try.prog 17 #[.agg #[.int .i64 m.I, .int .i64 m.T, .int .i64 m.S, .slice A m.nx.length c, .slice B m.out.length d, .slice C m.set.length e], .slice D wd.length f, .int .i64 en] w (EvP x L w) :=
  (run_r m A B C D c d e f wd en w hR hD).mono fun _ _ h => EvP.of hE h
set_option maxRecDepth 100000 in
set_option maxHeartbeats 4000000 in
theorem timerRuns_core (m : Tm.M) (A B C D : Option Addr) (c d e f : Nat) (wd : List (Int × Int)) (en : Int) (w : World) (hR : RdT w A B C m) (hD : Rd2 w D wd) :
    Calls Try.prog 4 #[.agg #[.int .i64 m.I, .int .i64 m.T, .int .i64 m.S, .slice A m.nx.length c, .slice B m.out.length d, .slice C m.set.length e], .slice D wd.length f, .int .i64 en] w fun e w' => e = .returned (.bool true) ∧ Below w.heap.size w w' := by
  have ml := hD.1
  obtain ⟨b, hs⟩ : ∃ b, small m = b := ⟨_, rfl⟩
  have HSM := Lib.hid hs
  clear hs
  obtain ⟨x, L, hE⟩ : ∃ x L, runE m wd en = (x, L) := ⟨_, _, rfl⟩
  have HE := Lib.hid hE
  clear hE
  go_enter Try.func4, Try.ntmps4
  go_upto_region 1 with fail
  generalize hwb : World.alloc _ _ = w0
  have BX : Hid (Blk w0 w.heap.size 25 (tc m A c B d C e)) := Lib.hid (by rw [← hwb]; exact Blk.new _ _ _)
  have HBL : Hid (Below w.heap.size w w0) := Lib.hid (by rw [← hwb]; exact (Below.refl _ _).alloc (Nat.le_refl _) _)
  clear hwb
  have HR := Lib.hid (hR.keep HBL.out)
  have HD := Lib.hid (hD.keep HBL.out)
  clear hR hD
  go_wp2_with (first | (refine wpList_load_row rfl 25 _ rfl w.heap.size rfl 25 (tc m A c B d C e) (0, 0) _ BX.out Try.underlying25 rfl (by kernel_rfl) ?_))
  refine (small_eq c d e HR.out HSM.out).mono ?_
  rintro r w1 ⟨rfl, hb⟩
  replace BX := Lib.hid (BX.out.keep hb)
  replace HR := Lib.hid (HR.out.keep hb)
  replace HD := Lib.hid (HD.out.keep hb)
  replace HBL := Lib.hid (below_seq HBL.out hb)
  clear hb w0
  cases b with
  | false =>
    go_wp2_with fail
    refine (awake_p _).mono ?_
    rintro r w2 ⟨rfl, hb⟩
    replace HBL := Lib.hid (below_seq HBL.out hb)
    go_wp2_with fail
    go_ret
    exact ⟨rfl, HBL.out⟩
  | true =>
    by_cases hl : (1100 : Int) < (wd.length : Int)
    · go_wp2_with fail
      refine (awake_p _).mono ?_
      rintro r w2 ⟨rfl, hb⟩
      replace HBL := Lib.hid (below_seq HBL.out hb)
      go_wp2_with fail
      go_ret
      exact ⟨rfl, HBL.out⟩
    · go_wp2_with (first | (refine wpList_load_row rfl 25 _ rfl w.heap.size rfl 25 (tc m A c B d C e) (0, 0) _ BX.out Try.underlying25 rfl (by kernel_rfl) ?_))
      refine (run_pE HE.out HR.out HD.out).mono ?_
      rintro r w2 ⟨⟨X, cx, rfl, hX⟩, hb⟩
      have HX := Lib.hid hX
      replace BX := Lib.hid (BX.out.keep hb)
      replace HR := Lib.hid (HR.out.keep hb)
      replace HD := Lib.hid (HD.out.keep hb)
      replace HBL := Lib.hid (below_seq HBL.out hb)
      clear hb hX w1
      go_wp2_with (first | (refine wpList_load_row rfl 25 _ rfl w.heap.size rfl 25 (tc m A c B d C e) (0, 0) _ BX.out Try.underlying25 rfl (by kernel_rfl) ?_))
      refine (run_rE HE.out HR.out HD.out).mono ?_
      rintro r w3 ⟨⟨Y, cy, rfl, hY⟩, hb⟩
      have HY := Lib.hid hY
      replace HX := Lib.hid (HX.out.keep hb)
      replace HBL := Lib.hid (below_seq HBL.out hb)
      clear hb hY w2 BX HR HD
      go_wp2_with fail
      refine (sev_b rfl HX.out HY.out).mono ?_
      rintro r w4 ⟨rfl, hb⟩
      replace HBL := Lib.hid (below_seq HBL.out hb)
      clear hb w3 HX HY
      have e1 : (x == x) = true := beq_self_eq_true x
      have e2 : decide (x = x) = true := decide_eq_true rfl
      go_wp2_with fail
      refine (awake_p _).mono ?_
      rintro r w5 ⟨rfl, hb⟩
      replace HBL := Lib.hid (below_seq HBL.out hb)
      go_wp2_with fail
      go_ret
      exact ⟨rfl, HBL.out⟩
theorem timerRuns_walk (w : World) (a0 a1 a2 : Int) (A3 : Option Addr) (c3 : Nat) (x3 : List (List Int)) (A4 : Option Addr) (c4 : Nat) (x4 : List (List Int)) (A5 : Option Addr) (c5 : Nat) (x5 : List (List (Int × Int))) (A6 : Option Addr) (c6 : Nat) (x6 : List (Int × Int)) (a7 : Int)
    (_ : (Lit.int .i64 a0).wf = true) (_ : (Lit.int .i64 a1).wf = true) (_ : (Lit.int .i64 a2).wf = true) (r3 : RdM .i64 w A3 x3) (_ : WfM .i64 x3) (r4 : RdM .i64 w A4 x4) (_ : WfM .i64 x4) (r5 : RdP w A5 x5) (r6 : Rd2 w A6 x6) (_ : (Lit.int .i64 a7).wf = true) :
    Calls Try.prog 4 #[.agg #[.int .i64 a0, .int .i64 a1, .int .i64 a2, .slice A3 x3.length c3, .slice A4 x4.length c4, .slice A5 x5.length c5], .slice A6 x6.length c6, .int .i64 a7] w fun e w' => e = .returned (.bool true) ∧ Below w.heap.size w w' :=
  timerRuns_core ⟨a0, a1, a2, x3, x4, x5⟩ A3 A4 A5 A6 c3 c4 c5 c6 x6 a7 w ⟨r3, r4, r5⟩ r6
end Go.Proofs.Ytpcoddbkcelaoaa
