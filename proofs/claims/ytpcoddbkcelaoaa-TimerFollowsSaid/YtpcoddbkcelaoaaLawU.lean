/- The walk of the statement TimerUntimed. -/
import Derived.Test.YtpcoddbkcelaoaaLawR
import Derived.Test.YtpcoddbkcelaoaaUntR
namespace Go.Proofs.Ytpcoddbkcelaoaa
open Go.RowKit

theorem s6_bb {n m : Nat} {I S : Int} {A B C D : Option Addr} {c d e f : Nat} {nx out : List (List Int)} {w : World} (hn : nx.length = n) (ho : out.length = m) (h1 : RdM .i64 w A nx) (h2 : RdM .i64 w B out) (h3 : RdM .i64 w C nx) (h4 : RdM .i64 w D out) :
    Calls Try.prog 21 #[.agg #[.int .i64 I, .int .i64 S, .slice A n c, .slice B m d], .agg #[.int .i64 I, .int .i64 S, .slice C n e, .slice D m f]] w fun r w' => r = .returned (.bool true) ∧ Below w.heap.size w w' := by
  subst hn ho
  have h := same6_r I S I S nx out nx out A B C D c d e f w h1 h2 h3 h4
  exact h.mono fun _ _ ⟨he, hb⟩ => ⟨by rw [he]; simp, hb⟩
/-- a machine without time that has come back -/
def MeP (e I : Int) (nx out : List (List Int)) (w : World) (r : Ending) (w' : World) : Prop :=
  (∃ A B c d, r = .returned (.tuple #[.agg #[.int .i64 I, .int .i64 0, .slice A nx.length c, .slice B out.length d], .int .i64 e]) ∧ RdM .i64 w' A nx ∧ RdM .i64 w' B out) ∧ Below w.heap.size w w'
theorem unt_pE {m : Tm.M} {A B C : Option Addr} {c d e : Nat} {w : World} {x I : Int} {nx out : List (List Int)} (hE : untE m = (x, I, nx, out)) (hR : RdT w A B C m) :
    Calls Try.prog 19 #[.agg #[.int .i64 m.I, .int .i64 m.T, .int .i64 m.S, .slice A m.nx.length c, .slice B m.out.length d, .slice C m.set.length e]] w (MeP x I nx out w) :=
  (untimed_p m A B C c d e w hR).mono fun _ _ h => by rw [hE] at h; exact h
theorem unt_rE {m : Tm.M} {A B C : Option Addr} {c d e : Nat} {w : World} {x I : Int} {nx out : List (List Int)} (hE : untE m = (x, I, nx, out)) (hR : RdT w A B C m) :
    Calls Try.prog 20 #[.agg #[.int .i64 m.I, .int .i64 m.T, .int .i64 m.S, .slice A m.nx.length c, .slice B m.out.length d, .slice C m.set.length e]] w (MeP x I nx out w) :=
  (untimed_r m A B C c d e w hR).mono fun _ _ h => by rw [hE] at h; exact h
set_option maxRecDepth 100000 in
set_option maxHeartbeats 4000000 in
theorem timerUntimed_core (m : Tm.M) (A B C : Option Addr) (c d e : Nat) (w : World) (hR : RdT w A B C m) :
    Calls Try.prog 5 #[.agg #[.int .i64 m.I, .int .i64 m.T, .int .i64 m.S, .slice A m.nx.length c, .slice B m.out.length d, .slice C m.set.length e]] w fun e w' => e = .returned (.bool true) ∧ Below w.heap.size w w' := by
  obtain ⟨b, hs⟩ : ∃ b, small m = b := ⟨_, rfl⟩
  have HSM := Lib.hid hs
  clear hs
  obtain ⟨x, I, nx, out, hE⟩ : ∃ x I nx out, untE m = (x, I, nx, out) := ⟨_, _, _, _, rfl⟩
  have HE := Lib.hid hE
  clear hE
  go_enter Try.func5, Try.ntmps5
  go_upto_region 1 with fail
  generalize hwb : World.alloc _ _ = w0
  have BX : Hid (Blk w0 w.heap.size 25 (tc m A c B d C e)) := Lib.hid (by rw [← hwb]; exact Blk.new _ _ _)
  have HBL : Hid (Below w.heap.size w w0) := Lib.hid (by rw [← hwb]; exact (Below.refl _ _).alloc (Nat.le_refl _) _)
  clear hwb
  have HR := Lib.hid (hR.keep HBL.out)
  clear hR
  go_wp2_with (first | (refine wpList_load_row rfl 25 _ rfl w.heap.size rfl 25 (tc m A c B d C e) (0, 0) _ BX.out Try.underlying25 rfl (by kernel_rfl) ?_))
  refine (small_eq c d e HR.out HSM.out).mono ?_
  rintro r w1 ⟨rfl, hb⟩
  replace BX := Lib.hid (BX.out.keep hb)
  replace HR := Lib.hid (HR.out.keep hb)
  replace HBL := Lib.hid (below_seq HBL.out hb)
  clear hb w0
  cases b with
  | false =>
    go_wp2_with fail
    refine (awake_p _).mono ?_
    rintro r w2 ⟨rfl, hb⟩
    replace HBL := Lib.hid (below_seq HBL.out hb)
    go_wp2_with fail
    go_ret
    exact ⟨rfl, HBL.out⟩
  | true =>
    go_wp2_with (first | (refine wpList_load_row rfl 25 _ rfl w.heap.size rfl 25 (tc m A c B d C e) (0, 0) _ BX.out Try.underlying25 rfl (by kernel_rfl) ?_))
    refine (unt_pE HE.out HR.out).mono ?_
    rintro r w2 ⟨⟨X, Y, cx, cy, rfl, hX, hY⟩, hb⟩
    have HX := Lib.hid hX
    have HY := Lib.hid hY
    replace BX := Lib.hid (BX.out.keep hb)
    replace HR := Lib.hid (HR.out.keep hb)
    replace HBL := Lib.hid (below_seq HBL.out hb)
    clear hb hX hY w1
    go_upto_region 4 with fail
    generalize hwb : World.alloc _ _ = w3
    obtain ⟨g, hg⟩ : ∃ g, g = w2.heap.size := ⟨_, rfl⟩
    have hb : Below w2.heap.size w2 w3 := by rw [← hwb]; exact (Below.refl _ _).alloc (Nat.le_refl _) _
    have PX : Hid (Blk w3 g 46 #[.int .i64 I, .int .i64 0, .slice X nx.length cx, .slice Y out.length cy]) := Lib.hid (by rw [← hwb, hg]; exact Blk.new _ _ _)
    rw [← hg]
    replace BX := Lib.hid (BX.out.keep hb)
    replace HR := Lib.hid (HR.out.keep hb)
    replace HX := Lib.hid (HX.out.keep hb)
    replace HY := Lib.hid (HY.out.keep hb)
    replace HBL := Lib.hid (below_seq HBL.out hb)
    clear hb hwb hg w2
    go_wp2_with (first | (refine wpList_load_row rfl 25 _ rfl w.heap.size rfl 25 (tc m A c B d C e) (0, 0) _ BX.out Try.underlying25 rfl (by kernel_rfl) ?_))
    refine (unt_rE HE.out HR.out).mono ?_
    rintro r w4 ⟨⟨X', Y', cx', cy', rfl, hX', hY'⟩, hb⟩
    have HX' := Lib.hid hX'
    have HY' := Lib.hid hY'
    replace HX := Lib.hid (HX.out.keep hb)
    replace HY := Lib.hid (HY.out.keep hb)
    replace PX := Lib.hid (PX.out.keep hb)
    replace HBL := Lib.hid (below_seq HBL.out hb)
    clear hb hX' hY' w3 BX HR
    go_upto_region 5 with fail
    generalize hwb : World.alloc _ _ = w5
    obtain ⟨g', hg⟩ : ∃ g, g = w4.heap.size := ⟨_, rfl⟩
    have hb : Below w4.heap.size w4 w5 := by rw [← hwb]; exact (Below.refl _ _).alloc (Nat.le_refl _) _
    have PX' : Hid (Blk w5 g' 46 #[.int .i64 I, .int .i64 0, .slice X' nx.length cx', .slice Y' out.length cy']) := Lib.hid (by rw [← hwb, hg]; exact Blk.new _ _ _)
    rw [← hg]
    replace PX := Lib.hid (PX.out.keep hb)
    replace HX := Lib.hid (HX.out.keep hb)
    replace HY := Lib.hid (HY.out.keep hb)
    replace HX' := Lib.hid (HX'.out.keep hb)
    replace HY' := Lib.hid (HY'.out.keep hb)
    replace HBL := Lib.hid (below_seq HBL.out hb)
    clear hb hwb hg w4
    go_wp2_with (first | (refine wpList_load_row rfl 46 _ rfl g rfl 46 #[.int .i64 I, .int .i64 0, .slice X nx.length cx, .slice Y out.length cy] (0, 0) _ PX.out Try.underlying46 rfl (by kernel_rfl) ?_) | (refine wpList_load_row rfl 46 _ rfl g' rfl 46 #[.int .i64 I, .int .i64 0, .slice X' nx.length cx', .slice Y' out.length cy'] (0, 0) _ PX'.out Try.underlying46 rfl (by kernel_rfl) ?_))
    refine (s6_bb rfl rfl HX.out HY.out HX'.out HY'.out).mono ?_
    rintro r w6 ⟨rfl, hb⟩
    replace HBL := Lib.hid (below_seq HBL.out hb)
    clear hb w5 HX HY HX' HY' PX PX'
    have e1 : (x == x) = true := beq_self_eq_true x
    have e2 : decide (x = x) = true := decide_eq_true rfl
    go_wp2_with fail
    refine (awake_p _).mono ?_
    rintro r w7 ⟨rfl, hb⟩
    replace HBL := Lib.hid (below_seq HBL.out hb)
    go_wp2_with fail
    go_ret
    exact ⟨rfl, HBL.out⟩
theorem timerUntimed_walk (w : World) (a0 a1 a2 : Int) (A3 : Option Addr) (c3 : Nat) (x3 : List (List Int)) (A4 : Option Addr) (c4 : Nat) (x4 : List (List Int)) (A5 : Option Addr) (c5 : Nat) (x5 : List (List (Int × Int)))
    (_ : (Lit.int .i64 a0).wf = true) (_ : (Lit.int .i64 a1).wf = true) (_ : (Lit.int .i64 a2).wf = true) (r3 : RdM .i64 w A3 x3) (_ : WfM .i64 x3) (r4 : RdM .i64 w A4 x4) (_ : WfM .i64 x4) (r5 : RdP w A5 x5) :
    Calls Try.prog 5 #[.agg #[.int .i64 a0, .int .i64 a1, .int .i64 a2, .slice A3 x3.length c3, .slice A4 x4.length c4, .slice A5 x5.length c5]] w fun e w' => e = .returned (.bool true) ∧ Below w.heap.size w w' :=
  timerUntimed_core ⟨a0, a1, a2, x3, x4, x5⟩ A3 A4 A5 c3 c4 c5 w ⟨r3, r4, r5⟩
end Go.Proofs.Ytpcoddbkcelaoaa
