/- Devices: Same of equal devices. -/
import Derived.Test.YtpoppadihbgbgaaDev15
import Derived.Test.YtpoppadihbgbgaaSame
import Derived.BigQuiet
namespace Go.Proofs.Ytpoppadihbgbgaa
open Go.RowKit

theorem quiet_add {P : Program} {f : FuncId} {args : Array Value} {w : World} {a n : Nat} {v : Value}
    (h : Calls P f args (w.drewN (a + n)) fun e w' => e = .returned v ∧ ∃ m, w' = (w.drewN (a + n)).drewN m) :
    Calls P f args (w.drewN (a + n)) fun e w'' => e = .returned v ∧ ∃ m, w'' = w.drewN (a + m) :=
  h.mono fun _ _ ⟨he, m, hm⟩ => ⟨he, n + m, by rw [hm, World.drewN_drewN, Nat.add_assoc]⟩
theorem same_yes {n : Nat} {A B : Option Addr} {c d : Nat} {xs : List Int} {w : World} (hn : xs.length = n) (ha : Rd w A xs) (hb : Rd w B xs) :
    Calls Try.prog 18 #[.slice A n c, .slice B n d] w fun e w' => e = .returned (.bool true) ∧ ∃ n, w' = w.drewN n := by
  subst hn
  refine (same_any A B c d xs xs w ha hb).mono fun e w' ⟨h1, h2⟩ => ⟨?_, h2⟩
  rw [h1]; unfold sameB; simp
set_option maxRecDepth 100000 in
set_option maxHeartbeats 1000000 in
theorem ints_yes {n : Nat} {A B : Option Addr} {c d : Nat} {xs : List Int} {w : World} (hn : xs.length = n) (ha : Rd w A xs) (hb : Rd w B xs) :
    Calls Try.prog 57 #[.slice A n c, .slice B n d] w fun e w' => e = .returned (.bool true) ∧ ∃ n, w' = w.drewN n := by
  subst hn
  have mx := ha.1
  have b0 : ((xs.length : Int) != (xs.length : Int)) = false := by simp
  have HA := Lib.hid ha
  have HB := Lib.hid hb
  clear ha hb
  go_enter Try.func57, Try.ntmps57
  go_wp2_with fail
  go_loopw [5] (fun i wr => ∃ j m : Nat, j ≤ xs.length ∧ i = .int .i64 j ∧ wr = w.drewN m) (fun i _ => xs.length - (intOf i).toNat)
  case atStart => exact ⟨0, 0, Nat.zero_le _, rfl, rfl⟩
  case round =>
    obtain ⟨j, m, hj, rfl, rfl⟩ := hrel
    by_cases h : j < xs.length
    · obtain ⟨ad, x, rfl, hx, cx⟩ := HA.out.at_ h
      obtain ⟨ad2, y, rfl, hy, cy⟩ := HB.out.at_ h
      obtain rfl : x = y := hx.symm.trans hy
      have b1 : (x != x) = false := by simp
      clear hx hy
      have cx' : ∀ n, (w.drewN n).cell? (ad.add j) = some (.int .i64 x) := fun n => cx
      have cy' : ∀ n, (w.drewN n).cell? (ad2.add j) = some (.int .i64 x) := fun n => cy
      go_wp2_with fail
      go_quiet (fail)
      go_wp2_with fail
      go_roundw
      case rel => exact ⟨j + 1, _, by omega, by go_num, rfl⟩
      case measure => simp [intOf]; omega
    · obtain rfl : j = xs.length := by omega
      go_wp2_with fail
      go_ret
      exact ⟨rfl, _, rfl⟩
set_option maxRecDepth 100000 in
set_option maxHeartbeats 1000000 in
theorem lists_yes {n : Nat} {A B : Option Addr} {c d : Nat} {xss : List (List Int)} {w : World} (hn : xss.length = n) (ha : RdM .i64 w A xss) (hb : RdM .i64 w B xss) :
    Calls Try.prog 47 #[.slice A n c, .slice B n d] w fun e w' => e = .returned (.bool true) ∧ ∃ n, w' = w.drewN n := by
  subst hn
  have mx := ha.1
  have b0 : ((xss.length : Int) != (xss.length : Int)) = false := by simp
  have HA := Lib.hid ha
  have HB := Lib.hid hb
  clear ha hb
  go_enter Try.func47, Try.ntmps47
  go_wp2_with fail
  go_loopw [5] (fun i wr => ∃ j m : Nat, j ≤ xss.length ∧ i = .int .i64 j ∧ wr = w.drewN m) (fun i _ => xss.length - (intOf i).toNat)
  case atStart => exact ⟨0, 0, Nat.zero_le _, rfl, rfl⟩
  case round =>
    obtain ⟨j, m, hj, rfl, rfl⟩ := hrel
    by_cases h : j < xss.length
    · obtain ⟨ad, C, e, xs, rfl, hx, cx, rx⟩ := HA.out.at_ h
      obtain ⟨ad2, D, f, ys, rfl, hy, cy, ry⟩ := HB.out.at_ h
      obtain rfl : xs = ys := hx.symm.trans hy
      have HS := Lib.hid (fun (n : Nat) => ints_yes (c := e) (d := f) (n := xs.length) (w := w.drewN n) rfl (rx.drewN n) (ry.drewN n))
      clear hx hy rx ry
      go_wp2_with fail
      go_quiet ((go_at_call 57; exact quiet_add (HS.out _)))
      go_wp2_with fail
      go_roundw
      case rel => exact ⟨j + 1, _, by omega, by go_num, rfl⟩
      case measure => simp [intOf]; omega
    · obtain rfl : j = xss.length := by omega
      go_wp2_with fail
      go_ret
      exact ⟨rfl, _, rfl⟩
set_option maxRecDepth 100000 in
set_option maxHeartbeats 1000000 in
theorem mach_yes (I S : Int) (nx out : List (List Int)) (A B A2 B2 : Option Addr) (c d c2 d2 : Nat) (w : World) (ha : RdM .i64 w A nx) (hb : RdM .i64 w B out) (ha2 : RdM .i64 w A2 nx) (hb2 : RdM .i64 w B2 out) :
    Calls Try.prog 28 #[.agg #[.int .i64 I, .int .i64 S, .slice A nx.length c, .slice B out.length d], .agg #[.int .i64 I, .int .i64 S, .slice A2 nx.length c2, .slice B2 out.length d2]] w fun e w' => e = .returned (.bool true) ∧ Below w.heap.size w w' := by
  have e1 : (I == I) = true := by simp
  have e2 : (S == S) = true := by simp
  have HA := Lib.hid ha
  have HB := Lib.hid hb
  have HA2 := Lib.hid ha2
  have HB2 := Lib.hid hb2
  clear ha hb ha2 hb2
  have hbx : Below w.heap.size w ((w.alloc (.cells #[.int .i64 I, .int .i64 S, .slice A nx.length c, .slice B out.length d] 24)).alloc (.cells #[.int .i64 I, .int .i64 S, .slice A2 nx.length c2, .slice B2 out.length d2] 24)) := ((Below.refl _ _).alloc (Nat.le_refl _) _).alloc (by rw [size_alloc]; omega) _
  go_enter Try.func28, Try.ntmps28
  go_wp2_with fail
  refine (lists_yes rfl (HA.out.keep hbx) (HA2.out.keep hbx)).mono ?_
  rintro e w1 ⟨rfl, n1, rfl⟩
  have hb1 := below_drewN' hbx n1
  go_wp2_with fail
  refine (lists_yes rfl (HB.out.keep hb1) (HB2.out.keep hb1)).mono ?_
  rintro e w1 ⟨rfl, n2, rfl⟩
  have hb2 := below_drewN' hb1 n2
  go_wp2_with fail
  go_ret
  exact ⟨rfl, by rw [← World.drewN_drewN]; exact hb2⟩
set_option maxRecDepth 100000 in
set_option maxHeartbeats 4000000 in
theorem dev_yes (x : Dv) (A B C A2 B2 C2 : Option Addr) (c d e c2 d2 e2 : Nat) (w : World) (ha : RdD w A B C x) (hb : RdD w A2 B2 C2 x) :
    Calls Try.prog 12 #[(Value.agg #[Value.int IntKind.i64 (Dv.I x), Value.int IntKind.i64 (Dv.S x), Value.slice A (Dv.nx x).length c, Value.slice B (Dv.out x).length d, Value.int IntKind.i64 (Dv.st x), Value.bool (Dv.rdy x), Value.slice C (Dv.step x).length e, Value.int IntKind.i64 (Dv.rs x), Value.int IntKind.i64 (Dv.lost x), Value.int IntKind.i64 (Dv.wrong x), Value.int IntKind.i64 (Dv.crash x), Value.int IntKind.u64 (Dv.seed x), Value.int IntKind.i64 (Dv.steps x), Value.int IntKind.i64 (Dv.resets x), Value.int IntKind.i64 (Dv.time x)]), (Value.agg #[Value.int IntKind.i64 (Dv.I x), Value.int IntKind.i64 (Dv.S x), Value.slice A2 (Dv.nx x).length c2, Value.slice B2 (Dv.out x).length d2, Value.int IntKind.i64 (Dv.st x), Value.bool (Dv.rdy x), Value.slice C2 (Dv.step x).length e2, Value.int IntKind.i64 (Dv.rs x), Value.int IntKind.i64 (Dv.lost x), Value.int IntKind.i64 (Dv.wrong x), Value.int IntKind.i64 (Dv.crash x), Value.int IntKind.u64 (Dv.seed x), Value.int IntKind.i64 (Dv.steps x), Value.int IntKind.i64 (Dv.resets x), Value.int IntKind.i64 (Dv.time x)])] w fun r w' => r = .returned (.bool true) ∧ Below w.heap.size w w' := by
  have HA := Lib.hid ha
  have HB := Lib.hid hb
  clear ha hb
  go_enter Try.func12, Try.ntmps12
  go_wp2_with fail
  obtain ⟨w0, hw0⟩ : ∃ w0, w0 = (w.alloc (.cells (#[Value.int IntKind.i64 (Dv.I x), Value.int IntKind.i64 (Dv.S x), Value.slice A (Dv.nx x).length c, Value.slice B (Dv.out x).length d, Value.int IntKind.i64 (Dv.st x), Value.bool (Dv.rdy x), Value.slice C (Dv.step x).length e, Value.int IntKind.i64 (Dv.rs x), Value.int IntKind.i64 (Dv.lost x), Value.int IntKind.i64 (Dv.wrong x), Value.int IntKind.i64 (Dv.crash x), Value.int IntKind.u64 (Dv.seed x), Value.int IntKind.i64 (Dv.steps x), Value.int IntKind.i64 (Dv.resets x), Value.int IntKind.i64 (Dv.time x)]) 32)).alloc (.cells (#[Value.int IntKind.i64 (Dv.I x), Value.int IntKind.i64 (Dv.S x), Value.slice A2 (Dv.nx x).length c2, Value.slice B2 (Dv.out x).length d2, Value.int IntKind.i64 (Dv.st x), Value.bool (Dv.rdy x), Value.slice C2 (Dv.step x).length e2, Value.int IntKind.i64 (Dv.rs x), Value.int IntKind.i64 (Dv.lost x), Value.int IntKind.i64 (Dv.wrong x), Value.int IntKind.i64 (Dv.crash x), Value.int IntKind.u64 (Dv.seed x), Value.int IntKind.i64 (Dv.steps x), Value.int IntKind.i64 (Dv.resets x), Value.int IntKind.i64 (Dv.time x)]) 32) := ⟨_, rfl⟩
  have HX : Hid (RowD w0 w.heap.size 32 x A c B d C e) := Lib.hid (by rw [hw0]; unfold RowD; rw [heap_alloc_old _ _ (size_new _ _), heap_alloc_new])
  have HY : Hid (RowD w0 (w.heap.size + 1) 32 x A2 c2 B2 d2 C2 e2) := Lib.hid (by rw [hw0, ← size_alloc w (.cells (#[Value.int IntKind.i64 (Dv.I x), Value.int IntKind.i64 (Dv.S x), Value.slice A (Dv.nx x).length c, Value.slice B (Dv.out x).length d, Value.int IntKind.i64 (Dv.st x), Value.bool (Dv.rdy x), Value.slice C (Dv.step x).length e, Value.int IntKind.i64 (Dv.rs x), Value.int IntKind.i64 (Dv.lost x), Value.int IntKind.i64 (Dv.wrong x), Value.int IntKind.i64 (Dv.crash x), Value.int IntKind.u64 (Dv.seed x), Value.int IntKind.i64 (Dv.steps x), Value.int IntKind.i64 (Dv.resets x), Value.int IntKind.i64 (Dv.time x)]) 32)]; exact Go.heap_alloc_new _ _)
  have hbel : Below w.heap.size w w0 := by rw [hw0]; exact ((Below.refl _ _).alloc (Nat.le_refl _) _).alloc (by rw [size_alloc]; omega) _
  have hlt : w.heap.size + 1 < w0.heap.size := by rw [hw0, size_alloc, size_alloc]; omega
  rw [← hw0]
  clear hw0
  refine (mach_yes x.I x.S x.nx x.out A B A2 B2 c d c2 d2 w0 (HA.out.keep hbel).nx (HA.out.keep hbel).out (HB.out.keep hbel).nx (HB.out.keep hbel).out).mono ?_
  rintro r w1 ⟨rfl, hb⟩
  obtain ⟨c0, c1, c2', c3, c4, c5, c6, c7, c8, c9, c10, c11, c12, c13, c14⟩ := (HX.out.keep (Nat.lt_of_succ_lt hlt) hb).box
  obtain ⟨d0, d1, d2', d3, d4, d5, d6, d7, d8, d9, d10, d11, d12, d13, d14⟩ := (HY.out.keep hlt hb).box
  replace hbel := below_seq hbel hb
  clear hb
  have q1 : (x.st == x.st) = true := by simp
  have q2 : (x.rs == x.rs) = true := by simp
  have q3 : (x.rdy == x.rdy) = true := by simp
  have q4 : (x.lost == x.lost) = true := by simp
  have q5 : (x.wrong == x.wrong) = true := by simp
  have q6 : (x.crash == x.crash) = true := by simp
  have q7 : (x.seed == x.seed) = true := by simp
  have q8 : (x.steps == x.steps) = true := by simp
  have q9 : (x.resets == x.resets) = true := by simp
  have q10 : (x.time == x.time) = true := by simp
  go_wp2_with fail
  refine (same_yes rfl (HA.out.keep hbel).step (HB.out.keep hbel).step).mono ?_
  rintro e w1 ⟨rfl, n1, rfl⟩
  have hb1 := below_drewN' hbel n1
  go_wp2_with fail
  go_ret
  exact ⟨rfl, hb1⟩
end Go.Proofs.Ytpoppadihbgbgaa
