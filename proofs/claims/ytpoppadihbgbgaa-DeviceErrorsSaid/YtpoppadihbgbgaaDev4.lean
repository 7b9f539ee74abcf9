/- Devices: the structure, counted, Valid. -/
import Derived.Test.YtpoppadihbgbgaaDev3
namespace Go.Proofs.Ytpoppadihbgbgaa
open Go.RowKit

structure Dv where
  I : Int
  S : Int
  nx : List (List Int)
  out : List (List Int)
  st : Int
  rdy : Bool
  step : List Int
  rs : Int
  lost : Int
  wrong : Int
  crash : Int
  seed : Int
  steps : Int
  resets : Int
  time : Int
/-- a device's memory -/
structure RdD (w : World) (A B C : Option Addr) (x : Dv) : Prop where
  nx : RdM .i64 w A x.nx
  out : RdM .i64 w B x.out
  step : Rd w C x.step
theorem RdD.keep {w w' : World} {A B C : Option Addr} {x : Dv} (h : RdD w A B C x) (hb : Below w.heap.size w w') : RdD w' A B C x := ⟨h.nx.keep hb, h.out.keep hb, h.step.keep hb⟩
theorem size_new (w : World) (o : Obj) : w.heap.size < (w.alloc o).heap.size := by show w.heap.size < (w.heap.push o).size; rw [Array.size_push]; omega
/-- a device's box -/
structure BoxD (w : World) (k : Nat) (x : Dv) (A : Option Addr) (c : Nat) (B : Option Addr) (d : Nat) (C : Option Addr) (e : Nat) : Prop where
  c0 : w.cell? ⟨k, 0, none⟩ = some (Value.int IntKind.i64 x.I)
  c1 : w.cell? ⟨k, 1, none⟩ = some (Value.int IntKind.i64 x.S)
  c2 : w.cell? ⟨k, 2, none⟩ = some (Value.slice A x.nx.length c)
  c3 : w.cell? ⟨k, 3, none⟩ = some (Value.slice B x.out.length d)
  c4 : w.cell? ⟨k, 4, none⟩ = some (Value.int IntKind.i64 x.st)
  c5 : w.cell? ⟨k, 5, none⟩ = some (Value.bool x.rdy)
  c6 : w.cell? ⟨k, 6, none⟩ = some (Value.slice C x.step.length e)
  c7 : w.cell? ⟨k, 7, none⟩ = some (Value.int IntKind.i64 x.rs)
  c8 : w.cell? ⟨k, 8, none⟩ = some (Value.int IntKind.i64 x.lost)
  c9 : w.cell? ⟨k, 9, none⟩ = some (Value.int IntKind.i64 x.wrong)
  c10 : w.cell? ⟨k, 10, none⟩ = some (Value.int IntKind.i64 x.crash)
  c11 : w.cell? ⟨k, 11, none⟩ = some (Value.int IntKind.u64 x.seed)
  c12 : w.cell? ⟨k, 12, none⟩ = some (Value.int IntKind.i64 x.steps)
  c13 : w.cell? ⟨k, 13, none⟩ = some (Value.int IntKind.i64 x.resets)
  c14 : w.cell? ⟨k, 14, none⟩ = some (Value.int IntKind.i64 x.time)
theorem BoxD.keep {w w' : World} {N k : Nat} {x : Dv} {A B C : Option Addr} {c d e : Nat} (h : BoxD w k x A c B d C e) (hk : k < N) (hb : Below N w w') : BoxD w' k x A c B d C e := by
  obtain ⟨h0, h1, h2, h3, h4, h5, h6, h7, h8, h9, h10, h11, h12, h13, h14⟩ := h
  have hc : ∀ j, w'.cell? ⟨k, j, none⟩ = w.cell? ⟨k, j, none⟩ := fun j => hb.cell hk
  exact ⟨(hc 0).trans h0, (hc 1).trans h1, (hc 2).trans h2, (hc 3).trans h3, (hc 4).trans h4, (hc 5).trans h5, (hc 6).trans h6, (hc 7).trans h7, (hc 8).trans h8, (hc 9).trans h9, (hc 10).trans h10, (hc 11).trans h11, (hc 12).trans h12, (hc 13).trans h13, (hc 14).trans h14⟩
theorem BoxD.new (w : World) (x : Dv) (A : Option Addr) (c : Nat) (B : Option Addr) (d : Nat) (C : Option Addr) (e : Nat) (t : TypeId) : BoxD (w.alloc (.cells (#[Value.int IntKind.i64 (Dv.I x), Value.int IntKind.i64 (Dv.S x), Value.slice A (Dv.nx x).length c, Value.slice B (Dv.out x).length d, Value.int IntKind.i64 (Dv.st x), Value.bool (Dv.rdy x), Value.slice C (Dv.step x).length e, Value.int IntKind.i64 (Dv.rs x), Value.int IntKind.i64 (Dv.lost x), Value.int IntKind.i64 (Dv.wrong x), Value.int IntKind.i64 (Dv.crash x), Value.int IntKind.u64 (Dv.seed x), Value.int IntKind.i64 (Dv.steps x), Value.int IntKind.i64 (Dv.resets x), Value.int IntKind.i64 (Dv.time x)]) t)) w.heap.size x A c B d C e := by
  refine ⟨?_, ?_, ?_, ?_, ?_, ?_, ?_, ?_, ?_, ?_, ?_, ?_, ?_, ?_, ?_⟩ <;> (rw [World.cell?_alloc_at (hn := rfl)]; rfl)
def cntB (x : Dv) : Bool := !outB x.steps 1125899906842624 && !outB x.resets 1125899906842624 && !outB x.time 1125899906842624
def rateB (x : Dv) : Bool := !outB x.lost 10000 && !outB x.wrong 10000 && !outB x.crash 10000 && !decide (10000 < x.lost + x.wrong + x.crash)
def validD (x : Dv) : Int :=
  if Mea.validE x.I x.S x.nx x.out ≠ 0 then Mea.validE x.I x.S x.nx x.out
  else if outB x.st ((x.nx.length : Int) - 1) = true then 2
  else if fitsE x.step x.rs x.I ≠ 0 then fitsE x.step x.rs x.I
  else if rateB x = false then 2
  else if cntB x = false then 2
  else 0
theorem counted_p (x : Dv) (A B C : Option Addr) (c d e : Nat) (w : World) :
    Calls Try.prog 42 #[(Value.agg #[Value.int IntKind.i64 (Dv.I x), Value.int IntKind.i64 (Dv.S x), Value.slice A (Dv.nx x).length c, Value.slice B (Dv.out x).length d, Value.int IntKind.i64 (Dv.st x), Value.bool (Dv.rdy x), Value.slice C (Dv.step x).length e, Value.int IntKind.i64 (Dv.rs x), Value.int IntKind.i64 (Dv.lost x), Value.int IntKind.i64 (Dv.wrong x), Value.int IntKind.i64 (Dv.crash x), Value.int IntKind.u64 (Dv.seed x), Value.int IntKind.i64 (Dv.steps x), Value.int IntKind.i64 (Dv.resets x), Value.int IntKind.i64 (Dv.time x)])] w fun r w' => r = .returned (.bool (cntB x)) ∧ Below w.heap.size w w' := by
  have hbx : Below w.heap.size w (w.alloc (.cells (#[Value.int IntKind.i64 (Dv.I x), Value.int IntKind.i64 (Dv.S x), Value.slice A (Dv.nx x).length c, Value.slice B (Dv.out x).length d, Value.int IntKind.i64 (Dv.st x), Value.bool (Dv.rdy x), Value.slice C (Dv.step x).length e, Value.int IntKind.i64 (Dv.rs x), Value.int IntKind.i64 (Dv.lost x), Value.int IntKind.i64 (Dv.wrong x), Value.int IntKind.i64 (Dv.crash x), Value.int IntKind.u64 (Dv.seed x), Value.int IntKind.i64 (Dv.steps x), Value.int IntKind.i64 (Dv.resets x), Value.int IntKind.i64 (Dv.time x)]) 77)) := (Below.refl _ _).alloc (Nat.le_refl _) _
  cases h1 : outB x.steps 1125899906842624 with
  | true =>
    have HD : Hid (cntB x = false) := Lib.hid (by unfold cntB; rw [h1]; rfl)
    have H1 := Lib.hid h1
    clear h1
    go_enter Try.func42, Try.ntmps42
    go_wp2_with fail
    refine (outside_any _ _ _).mono ?_
    rintro e w' ⟨rfl, rfl⟩
    rw [H1.out]
    go_wp2_with fail
    go_ret
    exact ⟨by rw [HD.out]; rfl, hbx⟩
  | false =>
    cases h2 : outB x.resets 1125899906842624 with
    | true =>
      have HD : Hid (cntB x = false) := Lib.hid (by unfold cntB; rw [h1, h2]; rfl)
      have H1 := Lib.hid h1
      have H2 := Lib.hid h2
      clear h1 h2
      go_enter Try.func42, Try.ntmps42
      go_wp2_with fail
      refine (outside_any _ _ _).mono ?_
      rintro e w' ⟨rfl, rfl⟩
      rw [H1.out]
      go_wp2_with fail
      refine (outside_any _ _ _).mono ?_
      rintro e w' ⟨rfl, rfl⟩
      rw [H2.out]
      go_wp2_with fail
      go_ret
      exact ⟨by rw [HD.out]; rfl, hbx⟩
    | false =>
      have HD : Hid (cntB x = !outB x.time 1125899906842624) := Lib.hid (by unfold cntB; rw [h1, h2]; rfl)
      have H1 := Lib.hid h1
      have H2 := Lib.hid h2
      clear h1 h2
      go_enter Try.func42, Try.ntmps42
      go_wp2_with fail
      refine (outside_any _ _ _).mono ?_
      rintro e w' ⟨rfl, rfl⟩
      rw [H1.out]
      go_wp2_with fail
      refine (outside_any _ _ _).mono ?_
      rintro e w' ⟨rfl, rfl⟩
      rw [H2.out]
      go_wp2_with fail
      refine (outside_any _ _ _).mono ?_
      rintro e w' ⟨rfl, rfl⟩
      go_wp2_with fail
      go_ret
      exact ⟨by rw [HD.out]; rfl, hbx⟩
end Go.Proofs.Ytpoppadihbgbgaa
