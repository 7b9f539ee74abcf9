/- The walk of the statement RegisterUnfolds. -/
import Derived.Test.YtaoebjabdejpoaaAwk
import Derived.Test.YtaoebjabdejpoaaLawR
import Derived.Test.YtaoebjabdejpoaaSam
import Derived.Test.YtaoebjabdejpoaaUfR
namespace Go.Proofs.Ytaoebjabdejpoaa
open Go.RowKit

section
variable {m : Rg.M} {w : World} {x I di : Int} {nx out : List (List Int)} {A B : Option Addr}
/-- an unfolding that has been handed back -/
def UnfQ (x I : Int) (nx out : List (List Int)) (w : World) (r : Ending) (w' : World) : Prop :=
  (∃ X Y cx cy, r = .returned (.tuple #[.agg #[.int .i64 I, .int .i64 0, .slice X nx.length cx, .slice Y out.length cy], .int .i64 x]) ∧ RdM .i64 w' X nx ∧ RdM .i64 w' Y out) ∧ Below w.heap.size w w'
theorem unfP_e {c d : Nat} (hE : Rg.unfE m di = (x, I, nx, out)) (hR : RdA w A B m) :
    Calls Try.prog 24 #[regV m A B c d, .int .i64 di] w (UnfQ x I nx out w) := by
  have h := unfold_p m di A B c d w hR
  rw [hE] at h; exact h
theorem unfR_e {c d : Nat} (hE : Rg.unfE m di = (x, I, nx, out)) (hR : RdA w A B m) :
    Calls Try.prog 25 #[regV m A B c d, .int .i64 di] w (UnfQ x I nx out w) := by
  have h := unfold_r m di A B c d w hR
  rw [hE] at h; exact h
theorem small_e {b : Bool} (c d : Nat) (h1 : m.rg.length ≤ 9223372036854775807) (h2 : m.tr.length ≤ 9223372036854775807) (hb : small m = b) :
    Calls Try.prog 23 #[regV m A B c d] w fun r w' => r = .returned (.bool b) ∧ Below w.heap.size w w' := by
  subst hb
  exact small_r m A B c d w h1 h2
theorem same_e {C D : Option Addr} {c d e f : Nat} (h1 : RdM .i64 w A nx) (h2 : RdM .i64 w B out) (h3 : RdM .i64 w C nx) (h4 : RdM .i64 w D out) :
    Calls Try.prog 26 #[.agg #[.int .i64 I, .int .i64 0, .slice A nx.length c, .slice B out.length d], .agg #[.int .i64 I, .int .i64 0, .slice C nx.length e, .slice D out.length f]] w fun r w' => r = .returned (.bool true) ∧ Below w.heap.size w w' :=
  (same6_r I 0 I 0 nx out nx out A B C D c d e f w h1 h2 h3 h4).mono fun _ _ ⟨he, hb⟩ => ⟨by rw [he]; simp, hb⟩
end
set_option maxRecDepth 100000 in
set_option maxHeartbeats 8000000 in
theorem registerUnfolds_core (m : Rg.M) (A B : Option Addr) (c d : Nat) (di : Int) (w : World) (hR : RdA w A B m) :
    Calls Try.prog 6 #[regV m A B c d, .int .i64 di] w fun e w' => e = .returned (.bool true) ∧ Below w.heap.size w w' := by
  obtain ⟨b, hs⟩ : ∃ b, small m = b := ⟨_, rfl⟩
  have HSM := Lib.hid hs
  clear hs
  obtain ⟨x, I, nx, out, hE⟩ : ∃ x I nx out, Rg.unfE m di = (x, I, nx, out) := ⟨_, _, _, _, rfl⟩
  have HE := Lib.hid hE
  clear hE
  have e1 : (x == x) = true := beq_self_eq_true x
  have e2 : decide (x = x) = true := decide_eq_true rfl
  go_enter Try.func6, Try.ntmps6
  go_upto_region 1 with fail
  generalize hwb : World.alloc _ _ = w0
  have BX : Hid (Blk w0 w.heap.size 25 (tc m A c B d)) := Lib.hid (by rw [← hwb]; exact Blk.new _ _ _)
  have HBL : Hid (Below w.heap.size w w0) := Lib.hid (by rw [← hwb]; exact (Below.refl _ _).alloc (Nat.le_refl _) _)
  clear hwb
  have HR := Lib.hid (hR.keep HBL.out)
  clear hR
  have m1 := HR.out.rg.1
  have m2 := HR.out.tr.1
  go_wp2_with (first | (refine wpList_load_row rfl 25 _ rfl w.heap.size rfl 25 (tc m A c B d) (0, 0) _ BX.out Try.underlying25 rfl (by kernel_rfl) ?_))
  refine (small_e c d m1 m2 HSM.out).mono ?_
  rintro r w1 ⟨rfl, hb⟩
  replace BX := Lib.hid (BX.out.keep hb)
  replace HR := Lib.hid (HR.out.keep hb)
  replace HBL := Lib.hid (below_seq HBL.out hb)
  clear hb
  cases b with
  | false =>
    go_wp2_with fail
    refine (awake_p _).mono ?_
    rintro r wz ⟨rfl, hb⟩
    replace HBL := Lib.hid (below_seq HBL.out hb)
    go_wp2_with fail
    go_ret
    exact ⟨rfl, HBL.out⟩
  | true =>
    go_wp2_with (first | (refine wpList_load_row rfl 25 _ rfl w.heap.size rfl 25 (tc m A c B d) (0, 0) _ BX.out Try.underlying25 rfl (by kernel_rfl) ?_))
    refine (unfP_e HE.out HR.out).mono ?_
    rintro r w2 ⟨⟨X, Y, cx, cy, rfl, hX, hY⟩, hb⟩
    have HX := Lib.hid hX
    have HY := Lib.hid hY
    replace BX := Lib.hid (BX.out.keep hb)
    replace HR := Lib.hid (HR.out.keep hb)
    replace HBL := Lib.hid (below_seq HBL.out hb)
    clear hb hX hY
    go_upto_region 4 with fail
    generalize hwb : World.alloc _ _ = w3
    have hb : Below w2.heap.size w2 w3 := by rw [← hwb]; exact (Below.refl _ _).alloc (Nat.le_refl _) _
    have P1 : Hid (Blk w3 w2.heap.size 52 #[.int .i64 I, .int .i64 0, .slice X nx.length cx, .slice Y out.length cy]) := Lib.hid (by rw [← hwb]; exact Blk.new _ _ _)
    clear hwb
    replace BX := Lib.hid (BX.out.keep hb)
    replace HR := Lib.hid (HR.out.keep hb)
    replace HX := Lib.hid (HX.out.keep hb)
    replace HY := Lib.hid (HY.out.keep hb)
    replace HBL := Lib.hid (below_seq HBL.out hb)
    clear hb
    generalize w2.heap.size = gP1 at P1 ⊢
    go_wp2_with (first | (refine wpList_load_row rfl 25 _ rfl w.heap.size rfl 25 (tc m A c B d) (0, 0) _ BX.out Try.underlying25 rfl (by kernel_rfl) ?_))
    refine (unfR_e HE.out HR.out).mono ?_
    rintro r w4 ⟨⟨Z, U, cz, cu, rfl, hZ, hU⟩, hb⟩
    have HZ := Lib.hid hZ
    have HU := Lib.hid hU
    replace BX := Lib.hid (BX.out.keep hb)
    replace HR := Lib.hid (HR.out.keep hb)
    replace HX := Lib.hid (HX.out.keep hb)
    replace HY := Lib.hid (HY.out.keep hb)
    replace P1 := Lib.hid (P1.out.keep hb)
    replace HBL := Lib.hid (below_seq HBL.out hb)
    clear hb hZ hU
    clear HR BX
    go_upto_region 5 with fail
    generalize hwb : World.alloc _ _ = w5
    have hb : Below w4.heap.size w4 w5 := by rw [← hwb]; exact (Below.refl _ _).alloc (Nat.le_refl _) _
    have P2 : Hid (Blk w5 w4.heap.size 52 #[.int .i64 I, .int .i64 0, .slice Z nx.length cz, .slice U out.length cu]) := Lib.hid (by rw [← hwb]; exact Blk.new _ _ _)
    clear hwb
    replace HX := Lib.hid (HX.out.keep hb)
    replace HY := Lib.hid (HY.out.keep hb)
    replace P1 := Lib.hid (P1.out.keep hb)
    replace HZ := Lib.hid (HZ.out.keep hb)
    replace HU := Lib.hid (HU.out.keep hb)
    replace HBL := Lib.hid (below_seq HBL.out hb)
    clear hb
    generalize w4.heap.size = gP2 at P2 ⊢
    go_wp2_with (first | (refine wpList_load_row rfl 52 _ rfl gP1 rfl 52 (#[.int .i64 I, .int .i64 0, .slice X nx.length cx, .slice Y out.length cy]) (0, 0) _ P1.out Try.underlying52 rfl (by kernel_rfl) ?_) | (refine wpList_load_row rfl 52 _ rfl gP2 rfl 52 (#[.int .i64 I, .int .i64 0, .slice Z nx.length cz, .slice U out.length cu]) (0, 0) _ P2.out Try.underlying52 rfl (by kernel_rfl) ?_))
    refine (same_e HX.out HY.out HZ.out HU.out).mono ?_
    rintro r w6 ⟨rfl, hb⟩
    replace HX := Lib.hid (HX.out.keep hb)
    replace HY := Lib.hid (HY.out.keep hb)
    replace P1 := Lib.hid (P1.out.keep hb)
    replace HZ := Lib.hid (HZ.out.keep hb)
    replace HU := Lib.hid (HU.out.keep hb)
    replace P2 := Lib.hid (P2.out.keep hb)
    replace HBL := Lib.hid (below_seq HBL.out hb)
    clear hb
    clear HX HY HZ HU P1 P2
    go_wp2_with fail
    refine (awake_p _).mono ?_
    rintro r w7 ⟨rfl, hb⟩
    replace HBL := Lib.hid (below_seq HBL.out hb)
    clear hb
    go_wp2_with fail
    go_ret
    exact ⟨rfl, HBL.out⟩
theorem registerUnfolds_walk (w : World) (a0 a1 : Int) (A2 : Option Addr) (c2 : Nat) (x2 : List Int) (A3 : Option Addr) (c3 : Nat) (x3 : List (List (List Rg.T))) (a4 : Int)
    (_ : (Lit.int .i64 a0).wf = true) (_ : (Lit.int .i64 a1).wf = true) (r2 : Rd w A2 x2) (_ : Wf .i64 x2) (r3 : RdS (RdS RdT) w A3 x3) (_ : (Lit.int .i64 a4).wf = true) :
    Calls Try.prog 6 #[.agg #[.int .i64 a0, .int .i64 a1, .slice A2 x2.length c2, .slice A3 x3.length c3], .int .i64 a4] w fun e w' => e = .returned (.bool true) ∧ Below w.heap.size w w' :=
  registerUnfolds_core ⟨a0, a1, x2, x3⟩ A2 A3 c2 c3 a4 w ⟨r2, r3⟩
end Go.Proofs.Ytaoebjabdejpoaa
