/- Devices: the examples hold. -/
import Derived.Test.YtpoppadihbgbgaaDev21
namespace Go.Proofs.Ytpoppadihbgbgaa
open Go.RowKit
/-- of a device in a box the fields that the examples look at -/
structure Seen (w : World) (k : Nat) (st : Int) (rdy : Bool) (steps resets time : Int) : Prop where
  c4 : w.cell? ⟨k, 4, none⟩ = some (.int .i64 st)
  c5 : w.cell? ⟨k, 5, none⟩ = some (.bool rdy)
  c12 : w.cell? ⟨k, 12, none⟩ = some (.int .i64 steps)
  c13 : w.cell? ⟨k, 13, none⟩ = some (.int .i64 resets)
  c14 : w.cell? ⟨k, 14, none⟩ = some (.int .i64 time)
theorem Seen.keep {w w' : World} {k : Nat} {st steps resets time : Int} {rdy : Bool} (h : Seen w k st rdy steps resets time) (hb : Below w.heap.size w w') : Seen w' k st rdy steps resets time :=
  ⟨keep_cell hb h.c4, keep_cell hb h.c5, keep_cell hb h.c12, keep_cell hb h.c13, keep_cell hb h.c14⟩
theorem RowD.seen {w : World} {k t : Nat} {x : Dv} {A B C : Option Addr} {c d e : Nat} (h : RowD w k t x A c B d C e) : Seen w k x.st x.rdy x.steps x.resets x.time := ⟨h.box.c4, h.box.c5, h.box.c12, h.box.c13, h.box.c14⟩
/-- what a query of the examples leaves: the box of the device, the outputs, the error -/
def GQ (y : Dv) (os : List Int) (v : Value) (w : World) (r : Ending) (w' : World) : Prop := (∃ A c B d C e F f, r = .returned (.tuple #[(Value.agg #[Value.int IntKind.i64 (Dv.I y), Value.int IntKind.i64 (Dv.S y), Value.slice A (Dv.nx y).length c, Value.slice B (Dv.out y).length d, Value.int IntKind.i64 (Dv.st y), Value.bool (Dv.rdy y), Value.slice C (Dv.step y).length e, Value.int IntKind.i64 (Dv.rs y), Value.int IntKind.i64 (Dv.lost y), Value.int IntKind.i64 (Dv.wrong y), Value.int IntKind.i64 (Dv.crash y), Value.int IntKind.u64 (Dv.seed y), Value.int IntKind.i64 (Dv.steps y), Value.int IntKind.i64 (Dv.resets y), Value.int IntKind.i64 (Dv.time y)]), .slice F os.length f, v]) ∧ Rd w' F os) ∧ Below w.heap.size w w'
theorem q_of (l r c : Int) (ws : List Int) (A B C F : Option Addr) (a b d f : Nat) (w : World) (h : RdD w A B C (gX l r c)) (hw : Rd w F ws) {E : Int} {O : List Int} (he : qrE (gX l r c) ws = E) (ho : qrO (gX l r c) ws = O) :
    Calls Try.prog 17 #[(Value.agg #[Value.int IntKind.i64 (Dv.I (gX l r c)), Value.int IntKind.i64 (Dv.S (gX l r c)), Value.slice A (Dv.nx (gX l r c)).length a, Value.slice B (Dv.out (gX l r c)).length b, Value.int IntKind.i64 (Dv.st (gX l r c)), Value.bool (Dv.rdy (gX l r c)), Value.slice C (Dv.step (gX l r c)).length d, Value.int IntKind.i64 (Dv.rs (gX l r c)), Value.int IntKind.i64 (Dv.lost (gX l r c)), Value.int IntKind.i64 (Dv.wrong (gX l r c)), Value.int IntKind.i64 (Dv.crash (gX l r c)), Value.int IntKind.u64 (Dv.seed (gX l r c)), Value.int IntKind.i64 (Dv.steps (gX l r c)), Value.int IntKind.i64 (Dv.resets (gX l r c)), Value.int IntKind.i64 (Dv.time (gX l r c))]), .slice F ws.length f] w (GQ (qrX (gX l r c) ws) O (.int .i64 E) w) := by
  subst he ho
  exact (Query_p (gX l r c) ws A B C F a b d f w h hw (show (0 : Int) ≤ 7 by decide) (show (7 : Int) < 18446744073709551616 by decide)).mono fun _ _ ⟨⟨A, c, B, d, C, e, F, f, h1, _, h3⟩, hb⟩ => ⟨⟨A, c, B, d, C, e, F, f, h1, h3⟩, hb⟩
set_option maxRecDepth 100000 in
set_option maxHeartbeats 8000000 in
theorem awake_t (w : World) : Calls Try.prog 9 #[] w fun r w' => r = .returned (.bool true) ∧ Below w.heap.size w w' := by
  have hbel : Below w.heap.size w w := Below.refl _ _
  go_enter Try.func9, Try.ntmps9
  go_wp2_with fail
  refine (gate_v 0 0 0 gv_0 w).mono ?_
  rintro r w11 ⟨⟨A, a, B, b, C, c, rfl, hm⟩, hb⟩
  have HM := Lib.hid hm.rd
  replace hbel := below_seq hbel hb
  clear hm hb
  go_wp2_with fail
  have hbq : Below w11.heap.size w11 (w11.alloc (.cells #[.int .i64 1, .int .i64 0, .int .i64 1] 3)) := (Below.refl _ _).alloc (Nat.le_refl _) _
  have hr3 : Rd (w11.alloc (.cells #[.int .i64 1, .int .i64 0, .int .i64 1] 3)) (some ⟨w11.heap.size, 0, none⟩) [1, 0, 1] := rd3 (by go_simp) (by go_simp) (by go_simp)
  replace hbel := below_seq hbel hbq
  refine (q_of 0 0 0 [1, 0, 1] A B C _ a b c 3 _ (HM.out.keep hbq) hr3 ga_0.1 ga_0.2.1).mono ?_
  clear hbq hr3 HM
  rintro r w21 ⟨⟨A, a, B, b, C, c, F1, f1, rfl, hf⟩, hb⟩
  replace hbel := below_seq hbel hb
  clear hb
  have RO1 : Hid (Rd w21 F1 [0, 1, 2]) := Lib.hid hf
  clear hf
  have hy := Lib.hid ga_0.2.2
  generalize qrX (gX 0 0 0) [1, 0, 1] = y at hy ⊢
  go_upto_region 2 with fail
  generalize hwb : World.alloc _ _ = wb1
  have hb : Below w21.heap.size w21 wb1 := by rw [← hwb]; exact (Below.refl _ _).alloc (Nat.le_refl _) _
  replace RO1 := Lib.hid (RO1.out.keep hb)
  replace hbel := below_seq hbel hb
  have hrow : RowD wb1 w21.heap.size 32 y A a B b C c := by rw [← hwb]; exact Go.heap_alloc_new _ _
  have hs := hrow.seen
  rw [hy.out.1, hy.out.2.1, hy.out.2.2.1, hy.out.2.2.2.1, hy.out.2.2.2.2] at hs
  have S1 := Lib.hid hs
  clear hrow hs hy
  clear hb hwb
  go_wp2_with fail
  refine (gate_v 10000 0 0 gv_l wb1).mono ?_
  rintro r w12 ⟨⟨A, a, B, b, C, c, rfl, hm⟩, hb⟩
  have HM := Lib.hid hm.rd
  replace RO1 := Lib.hid (RO1.out.keep hb)
  replace S1 := Lib.hid (S1.out.keep hb)
  replace hbel := below_seq hbel hb
  clear hm hb
  go_wp2_with fail
  have hbq : Below w12.heap.size w12 (w12.alloc (.cells #[.int .i64 1, .int .i64 0, .int .i64 1] 3)) := (Below.refl _ _).alloc (Nat.le_refl _) _
  have hr3 : Rd (w12.alloc (.cells #[.int .i64 1, .int .i64 0, .int .i64 1] 3)) (some ⟨w12.heap.size, 0, none⟩) [1, 0, 1] := rd3 (by go_simp) (by go_simp) (by go_simp)
  replace RO1 := Lib.hid (RO1.out.keep hbq)
  replace S1 := Lib.hid (S1.out.keep hbq)
  replace hbel := below_seq hbel hbq
  refine (q_of 10000 0 0 [1, 0, 1] A B C _ a b c 3 _ (HM.out.keep hbq) hr3 ga_l.1 rfl).mono ?_
  clear hbq hr3 HM
  rintro r w22 ⟨⟨A, a, B, b, C, c, F2, f2, rfl, hf⟩, hb⟩
  replace RO1 := Lib.hid (RO1.out.keep hb)
  replace S1 := Lib.hid (S1.out.keep hb)
  replace hbel := below_seq hbel hb
  clear hb
  clear hf
  have hy := Lib.hid ga_l.2
  generalize qrX (gX 10000 0 0) [1, 0, 1] = y at hy ⊢
  go_upto_region 3 with fail
  generalize hwb : World.alloc _ _ = wb2
  have hb : Below w22.heap.size w22 wb2 := by rw [← hwb]; exact (Below.refl _ _).alloc (Nat.le_refl _) _
  replace RO1 := Lib.hid (RO1.out.keep hb)
  replace S1 := Lib.hid (S1.out.keep hb)
  replace hbel := below_seq hbel hb
  have hrow : RowD wb2 w22.heap.size 32 y A a B b C c := by rw [← hwb]; exact Go.heap_alloc_new _ _
  have hs := hrow.seen
  rw [hy.out.1, hy.out.2] at hs
  have S2 := Lib.hid hs
  clear hrow hs hy
  clear hb hwb
  go_wp2_with fail
  refine (gate_v 0 10000 0 gv_w wb2).mono ?_
  rintro r w13 ⟨⟨A, a, B, b, C, c, rfl, hm⟩, hb⟩
  have HM := Lib.hid hm.rd
  replace RO1 := Lib.hid (RO1.out.keep hb)
  replace S1 := Lib.hid (S1.out.keep hb)
  replace S2 := Lib.hid (S2.out.keep hb)
  replace hbel := below_seq hbel hb
  clear hm hb
  go_wp2_with fail
  have hbq : Below w13.heap.size w13 (w13.alloc (.cells #[.int .i64 1, .int .i64 0, .int .i64 1] 3)) := (Below.refl _ _).alloc (Nat.le_refl _) _
  have hr3 : Rd (w13.alloc (.cells #[.int .i64 1, .int .i64 0, .int .i64 1] 3)) (some ⟨w13.heap.size, 0, none⟩) [1, 0, 1] := rd3 (by go_simp) (by go_simp) (by go_simp)
  replace RO1 := Lib.hid (RO1.out.keep hbq)
  replace S1 := Lib.hid (S1.out.keep hbq)
  replace S2 := Lib.hid (S2.out.keep hbq)
  replace hbel := below_seq hbel hbq
  refine (q_of 0 10000 0 [1, 0, 1] A B C _ a b c 3 _ (HM.out.keep hbq) hr3 ga_w.1 ga_w.2).mono ?_
  clear hbq hr3 HM
  rintro r w23 ⟨⟨A, a, B, b, C, c, F3, f3, rfl, hf⟩, hb⟩
  replace RO1 := Lib.hid (RO1.out.keep hb)
  replace S1 := Lib.hid (S1.out.keep hb)
  replace S2 := Lib.hid (S2.out.keep hb)
  replace hbel := below_seq hbel hb
  clear hb
  have RO3 : Hid (Rd w23 F3 [1, 2, 3]) := Lib.hid hf
  clear hf
  generalize qrX (gX 0 10000 0) [1, 0, 1] = y
  go_upto_region 4 with fail
  generalize hwb : World.alloc _ _ = wb3
  have hb : Below w23.heap.size w23 wb3 := by rw [← hwb]; exact (Below.refl _ _).alloc (Nat.le_refl _) _
  replace RO1 := Lib.hid (RO1.out.keep hb)
  replace S1 := Lib.hid (S1.out.keep hb)
  replace S2 := Lib.hid (S2.out.keep hb)
  replace RO3 := Lib.hid (RO3.out.keep hb)
  replace hbel := below_seq hbel hb
  clear hb hwb
  go_wp2_with fail
  refine (gate_v 0 0 10000 gv_c wb3).mono ?_
  rintro r w14 ⟨⟨A, a, B, b, C, c, rfl, hm⟩, hb⟩
  have HM := Lib.hid hm.rd
  replace RO1 := Lib.hid (RO1.out.keep hb)
  replace S1 := Lib.hid (S1.out.keep hb)
  replace S2 := Lib.hid (S2.out.keep hb)
  replace RO3 := Lib.hid (RO3.out.keep hb)
  replace hbel := below_seq hbel hb
  clear hm hb
  go_wp2_with fail
  have hbq : Below w14.heap.size w14 (w14.alloc (.cells #[.int .i64 0] 3)) := (Below.refl _ _).alloc (Nat.le_refl _) _
  have hr3 : Rd (w14.alloc (.cells #[.int .i64 0] 3)) (some ⟨w14.heap.size, 0, none⟩) [0] := rd1 (by go_simp)
  replace RO1 := Lib.hid (RO1.out.keep hbq)
  replace S1 := Lib.hid (S1.out.keep hbq)
  replace S2 := Lib.hid (S2.out.keep hbq)
  replace RO3 := Lib.hid (RO3.out.keep hbq)
  replace hbel := below_seq hbel hbq
  refine (q_of 0 0 10000 [0] A B C _ a b c 1 _ (HM.out.keep hbq) hr3 ga_c.1 ga_c.2.1).mono ?_
  clear hbq hr3 HM
  rintro r w24 ⟨⟨A, a, B, b, C, c, F4, f4, rfl, hf⟩, hb⟩
  replace RO1 := Lib.hid (RO1.out.keep hb)
  replace S1 := Lib.hid (S1.out.keep hb)
  replace S2 := Lib.hid (S2.out.keep hb)
  replace RO3 := Lib.hid (RO3.out.keep hb)
  replace hbel := below_seq hbel hb
  clear hb
  have RO4 : Hid (Rd w24 F4 [1]) := Lib.hid hf
  clear hf
  have hy := Lib.hid ga_c.2.2
  generalize qrX (gX 0 0 10000) [0] = y at hy ⊢
  go_upto_region 5 with fail
  generalize hwb : World.alloc _ _ = wb4
  have hb : Below w24.heap.size w24 wb4 := by rw [← hwb]; exact (Below.refl _ _).alloc (Nat.le_refl _) _
  replace RO1 := Lib.hid (RO1.out.keep hb)
  replace S1 := Lib.hid (S1.out.keep hb)
  replace S2 := Lib.hid (S2.out.keep hb)
  replace RO3 := Lib.hid (RO3.out.keep hb)
  replace RO4 := Lib.hid (RO4.out.keep hb)
  replace hbel := below_seq hbel hb
  have hrow : RowD wb4 w24.heap.size 32 y A a B b C c := by rw [← hwb]; exact Go.heap_alloc_new _ _
  have hs := hrow.seen
  rw [hy.out] at hs
  have S4 := Lib.hid hs
  clear hrow hs hy
  clear hb hwb
  go_wp2_with fail
  refine (gate_v 0 0 10000 gv_c wb4).mono ?_
  rintro r w15 ⟨⟨A, a, B, b, C, c, rfl, hm⟩, hb⟩
  have HM := Lib.hid hm.rd
  replace RO1 := Lib.hid (RO1.out.keep hb)
  replace S1 := Lib.hid (S1.out.keep hb)
  replace S2 := Lib.hid (S2.out.keep hb)
  replace RO3 := Lib.hid (RO3.out.keep hb)
  replace RO4 := Lib.hid (RO4.out.keep hb)
  replace S4 := Lib.hid (S4.out.keep hb)
  replace hbel := below_seq hbel hb
  clear hm hb
  go_wp2_with fail
  have hbq : Below w15.heap.size w15 (w15.alloc (.cells #[.int .i64 0, .int .i64 0] 3)) := (Below.refl _ _).alloc (Nat.le_refl _) _
  have hr3 : Rd (w15.alloc (.cells #[.int .i64 0, .int .i64 0] 3)) (some ⟨w15.heap.size, 0, none⟩) [0, 0] := rd2 (by go_simp) (by go_simp)
  replace RO1 := Lib.hid (RO1.out.keep hbq)
  replace S1 := Lib.hid (S1.out.keep hbq)
  replace S2 := Lib.hid (S2.out.keep hbq)
  replace RO3 := Lib.hid (RO3.out.keep hbq)
  replace RO4 := Lib.hid (RO4.out.keep hbq)
  replace S4 := Lib.hid (S4.out.keep hbq)
  replace hbel := below_seq hbel hbq
  refine (q_of 0 0 10000 [0, 0] A B C _ a b c 2 _ (HM.out.keep hbq) hr3 ga_d rfl).mono ?_
  clear hbq hr3 HM
  rintro r w25 ⟨⟨A, a, B, b, C, c, F5, f5, rfl, hf⟩, hb⟩
  replace RO1 := Lib.hid (RO1.out.keep hb)
  replace S1 := Lib.hid (S1.out.keep hb)
  replace S2 := Lib.hid (S2.out.keep hb)
  replace RO3 := Lib.hid (RO3.out.keep hb)
  replace RO4 := Lib.hid (RO4.out.keep hb)
  replace S4 := Lib.hid (S4.out.keep hb)
  replace hbel := below_seq hbel hb
  clear hb
  clear hf
  generalize qrX (gX 0 0 10000) [0, 0] = y
  go_upto_region 6 with fail
  generalize hwb : World.alloc _ _ = wb5
  have hb : Below w25.heap.size w25 wb5 := by rw [← hwb]; exact (Below.refl _ _).alloc (Nat.le_refl _) _
  replace RO1 := Lib.hid (RO1.out.keep hb)
  replace S1 := Lib.hid (S1.out.keep hb)
  replace S2 := Lib.hid (S2.out.keep hb)
  replace RO3 := Lib.hid (RO3.out.keep hb)
  replace RO4 := Lib.hid (RO4.out.keep hb)
  replace S4 := Lib.hid (S4.out.keep hb)
  replace hbel := below_seq hbel hb
  clear hb hwb
  go_wp2_with fail
  refine (gate_v 0 0 0 gv_0 wb5).mono ?_
  rintro r w16 ⟨⟨A, a, B, b, C, c, rfl, hm⟩, hb⟩
  have HM := Lib.hid hm.rd
  replace RO1 := Lib.hid (RO1.out.keep hb)
  replace S1 := Lib.hid (S1.out.keep hb)
  replace S2 := Lib.hid (S2.out.keep hb)
  replace RO3 := Lib.hid (RO3.out.keep hb)
  replace RO4 := Lib.hid (RO4.out.keep hb)
  replace S4 := Lib.hid (S4.out.keep hb)
  replace hbel := below_seq hbel hb
  clear hm hb
  go_wp2_with fail
  refine (Step_p (gX 0 0 0) 0 A B C a b c w16 HM.out (by decide) (by decide)).mono ?_
  clear HM
  rintro r w26 ⟨⟨A, a, B, b, C, c, rfl, _⟩, hb⟩
  replace RO1 := Lib.hid (RO1.out.keep hb)
  replace S1 := Lib.hid (S1.out.keep hb)
  replace S2 := Lib.hid (S2.out.keep hb)
  replace RO3 := Lib.hid (RO3.out.keep hb)
  replace RO4 := Lib.hid (RO4.out.keep hb)
  replace S4 := Lib.hid (S4.out.keep hb)
  replace hbel := below_seq hbel hb
  clear hb
  rw [ga_s]
  generalize spX (gX 0 0 0) 0 = y
  generalize spO (gX 0 0 0) 0 = o
  go_upto_region 7 with fail
  generalize hwb : World.alloc _ _ = wb6
  have hb : Below w26.heap.size w26 wb6 := by rw [← hwb]; exact (Below.refl _ _).alloc (Nat.le_refl _) _
  replace RO1 := Lib.hid (RO1.out.keep hb)
  replace S1 := Lib.hid (S1.out.keep hb)
  replace S2 := Lib.hid (S2.out.keep hb)
  replace RO3 := Lib.hid (RO3.out.keep hb)
  replace RO4 := Lib.hid (RO4.out.keep hb)
  replace S4 := Lib.hid (S4.out.keep hb)
  replace hbel := below_seq hbel hb
  clear hb hwb
  go_wp2_with fail
  have hb1 : Below wb6.heap.size wb6 ((wb6.alloc (.cells #[.int .i64 5, .int .i64 3] 3)).alloc (.cells #[.int .i64 1, .int .i64 0, .int .i64 1] 3)) := ((Below.refl _ _).alloc (Nat.le_refl _) _).alloc (by rw [size_alloc]; omega) _
  refine (Cost_p [5, 3] [1, 0, 1] 100 _ _ 2 3 _ (rd2 (g := wb6.heap.size) (by go_simp) (by go_simp)) (rd3 (g := wb6.heap.size + 1) (by go_simp) (by go_simp) (by go_simp))).mono ?_
  rintro r w7 ⟨rfl, hb⟩
  rw [ga_n.1, ga_n.2]
  have hb2 := below_seq hb1 hb
  replace RO1 := Lib.hid (RO1.out.keep hb2)
  replace S1 := Lib.hid (S1.out.keep hb2)
  replace S2 := Lib.hid (S2.out.keep hb2)
  replace RO3 := Lib.hid (RO3.out.keep hb2)
  replace RO4 := Lib.hid (RO4.out.keep hb2)
  replace S4 := Lib.hid (S4.out.keep hb2)
  replace hbel := below_seq hbel hb2
  clear hb hb1 hb2
  go_wp2_with fail
  have hb : Below w7.heap.size w7 (w7.alloc (.cells #[.int .i64 0, .int .i64 1, .int .i64 2] 3)) := (Below.refl _ _).alloc (Nat.le_refl _) _
  replace RO1 := Lib.hid (RO1.out.keep hb)
  replace S1 := Lib.hid (S1.out.keep hb)
  replace S2 := Lib.hid (S2.out.keep hb)
  replace RO3 := Lib.hid (RO3.out.keep hb)
  replace RO4 := Lib.hid (RO4.out.keep hb)
  replace S4 := Lib.hid (S4.out.keep hb)
  replace hbel := below_seq hbel hb
  clear hb
  refine (same_yes (n := 3) (xs := [0, 1, 2]) rfl RO1.out (rd3 (g := w7.heap.size) (by go_simp) (by go_simp) (by go_simp))).mono ?_
  rintro r w81 ⟨rfl, m, hm⟩
  have hb : Below (w7.alloc (.cells #[.int .i64 0, .int .i64 1, .int .i64 2] 3)).heap.size (w7.alloc (.cells #[.int .i64 0, .int .i64 1, .int .i64 2] 3)) w81 := by rw [hm]; exact below_drewN' (Below.refl _ _) m
  replace RO1 := Lib.hid (RO1.out.keep hb)
  replace S1 := Lib.hid (S1.out.keep hb)
  replace S2 := Lib.hid (S2.out.keep hb)
  replace RO3 := Lib.hid (RO3.out.keep hb)
  replace RO4 := Lib.hid (RO4.out.keep hb)
  replace S4 := Lib.hid (S4.out.keep hb)
  replace hbel := below_seq hbel hb
  clear hb hm
  obtain ⟨c4, c5, c12, c13, c14⟩ := S1.out
  obtain ⟨d4, d5, d12, d13, d14⟩ := S2.out
  clear S1 S2
  go_wp2_with fail
  clear c4 c5 c12 c13 c14 d4 d5 d12 d13 d14
  have hb : Below w81.heap.size w81 (w81.alloc (.cells #[.int .i64 1, .int .i64 2, .int .i64 3] 3)) := (Below.refl _ _).alloc (Nat.le_refl _) _
  replace RO3 := Lib.hid (RO3.out.keep hb)
  replace RO4 := Lib.hid (RO4.out.keep hb)
  replace S4 := Lib.hid (S4.out.keep hb)
  replace hbel := below_seq hbel hb
  clear hb
  refine (same_yes (n := 3) (xs := [1, 2, 3]) rfl RO3.out (rd3 (g := w81.heap.size) (by go_simp) (by go_simp) (by go_simp))).mono ?_
  rintro r w82 ⟨rfl, m, hm⟩
  have hb : Below (w81.alloc (.cells #[.int .i64 1, .int .i64 2, .int .i64 3] 3)).heap.size (w81.alloc (.cells #[.int .i64 1, .int .i64 2, .int .i64 3] 3)) w82 := by rw [hm]; exact below_drewN' (Below.refl _ _) m
  replace RO3 := Lib.hid (RO3.out.keep hb)
  replace RO4 := Lib.hid (RO4.out.keep hb)
  replace S4 := Lib.hid (S4.out.keep hb)
  replace hbel := below_seq hbel hb
  clear hb hm
  go_wp2_with fail
  have hb : Below w82.heap.size w82 (w82.alloc (.cells #[.int .i64 1] 3)) := (Below.refl _ _).alloc (Nat.le_refl _) _
  replace RO4 := Lib.hid (RO4.out.keep hb)
  replace S4 := Lib.hid (S4.out.keep hb)
  replace hbel := below_seq hbel hb
  clear hb
  refine (same_yes (n := 1) (xs := [1]) rfl RO4.out (rd1 (g := w82.heap.size) (by go_simp))).mono ?_
  rintro r w83 ⟨rfl, m, hm⟩
  have hb : Below (w82.alloc (.cells #[.int .i64 1] 3)).heap.size (w82.alloc (.cells #[.int .i64 1] 3)) w83 := by rw [hm]; exact below_drewN' (Below.refl _ _) m
  replace RO4 := Lib.hid (RO4.out.keep hb)
  replace S4 := Lib.hid (S4.out.keep hb)
  replace hbel := below_seq hbel hb
  clear hb hm
  obtain ⟨c4, c5, c12, c13, c14⟩ := S4.out
  go_wp2_with fail
  go_ret
  exact ⟨rfl, hbel⟩
end Go.Proofs.Ytpoppadihbgbgaa
