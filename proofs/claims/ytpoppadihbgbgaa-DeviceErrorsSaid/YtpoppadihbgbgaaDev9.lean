/- Devices: reset of a unit. -/
import Derived.Test.YtpoppadihbgbgaaDev8
import Derived.StillTailTactics
namespace Go.Proofs.Ytpoppadihbgbgaa
open Go.RowKit

/-- a device that is reset -/
def nextR (x : Dv) : Dv := { x with st := x.S, rdy := true, resets := x.resets + 1, time := x.time + x.rs }
def resetE (x : Dv) : Int := if cntB (nextR x) = true then 0 else 11
def resetX (x : Dv) : Dv := if cntB (nextR x) = true then nextR x else x
/-- what a unit's call leaves -/
def UnitP (w : World) (k : Nat) (A : Option Addr) (c : Nat) (B : Option Addr) (d : Nat) (C : Option Addr) (e : Nat) (v : Value) (y : Dv) (r : Ending) (w' : World) : Prop :=
  r = .returned v ∧ RowD w' k 77 y A c B d C e ∧ w.grownBy w' (some k)
theorem grown_alloc {w w' : World} {k : Nat} (h : w.grownBy w' (some k)) (o : Obj) : w.grownBy (w'.alloc o) (some k) :=
  ⟨h.os, h.tape, h.output, Nat.le_trans h.size (by rw [size_alloc]; omega), fun b hb hne => (heap_alloc_old w' o (Nat.lt_of_lt_of_le hb h.size)).trans (h.block b hb hne)⟩
theorem RowD.setT {w : World} {k t : Nat} {x : Dv} {A B C : Option Addr} {c d e : Nat} (h : RowD w k t x A c B d C e) (v : Int) : RowD (w.setCell ⟨k, 14, none⟩ (.int .i64 v)) k t { x with time := v } A c B d C e := by
  unfold RowD at *
  rw [heap_setCell_same w k 14 _ t _ h]
  rfl
theorem RowD.drew {w : World} {k t : Nat} {x : Dv} {A B C : Option Addr} {c d e : Nat} (h : RowD w k t x A c B d C e) : RowD w.drew k t x A c B d C e := h
theorem RowD.oth {w : World} {k t g j : Nat} {x : Dv} {A B C : Option Addr} {c d e : Nat} {u : Value} (h : RowD w k t x A c B d C e) (hne : k ≠ g) : RowD (w.setCell ⟨g, j, none⟩ u) k t x A c B d C e :=
  (heap_setCell_other w ⟨g, j, none⟩ k u hne).trans h
theorem grown_set {w w' : World} {k g j : Nat} {u : Value} (h : w.grownBy w' (some k)) (hg : w.heap.size ≤ g) : w.grownBy (w'.setCell ⟨g, j, none⟩ u) (some k) :=
  ⟨h.os, h.tape, h.output, Nat.le_trans h.size (by rw [size_setCell]; exact Nat.le_refl _), fun b hb hne => (heap_setCell_other w' ⟨g, j, none⟩ b u (by intro e; subst e; omega)).trans (h.block b hb hne)⟩
theorem grown_drew {w w' : World} {k : Nat} (h : w.grownBy w' (some k)) : w.grownBy w'.drew (some k) := ⟨h.os, h.tape, h.output, h.size, h.block⟩
theorem grown_bel {w w' w2 : World} {k N : Nat} (h : w.grownBy w' (some k)) (hb : Below N w' w2) (hN : w.heap.size ≤ N) : w.grownBy w2 (some k) :=
  ⟨hb.os.trans h.os, hb.tape.trans h.tape, hb.output.trans h.output, Nat.le_trans h.size hb.size, fun b hb1 hne => (hb.block b (by omega)).trans (h.block b hb1 hne)⟩
theorem grown_row {w w' : World} {k : Nat} {cs : Array Value} (h : w.grownBy w' (some k)) : w.grownBy (w'.setRow k cs) (some k) :=
  ⟨h.os, h.tape, h.output, Nat.le_trans h.size (by simp), fun b hb hne => (setRow_other w' k b cs (by intro e; subst e; exact hne rfl)).trans (h.block b hb hne)⟩
set_option maxRecDepth 100000 in
set_option maxHeartbeats 4000000 in
theorem reset_u (x : Dv) (A B C : Option Addr) (c d e : Nat) (w : World) (k : Nat) (h : RowD w k 77 x A c B d C e)
    (h1 : 0 ≤ x.resets) (h2 : x.resets ≤ 1125899906842624) (h3 : 0 ≤ x.time) (h4 : x.time ≤ 1125899906842624) (h5 : 0 ≤ x.rs) (h6 : x.rs ≤ 1048576) :
    Calls Try.prog 31 #[.pointer (some ⟨k, 0, none⟩)] w (UnitP w k A c B d C e (.int .i64 (resetE x)) (resetX x)) := by
  have HX := Lib.hid h
  have hlt := h.lt
  have hc1 := h.box.c1
  have hc7 := h.box.c7
  go_enter Try.func31, Try.ntmps31
  go_upto_region 5 with (refine wpList_load_row rfl 77 _ rfl k rfl 77 _ (0, 0) _ HX.out (by rfl) rfl (by kernel_rfl) ?_)
  generalize hw1 : w.alloc _ = w1
  have HY : Hid (RowD w1 w.heap.size 77 { x with st := x.S, rdy := true, resets := x.resets + 1 } A c B d C e) := Lib.hid (by rw [← hw1]; exact Go.heap_alloc_new w _)
  have HX1 : Hid (RowD w1 k 77 x A c B d C e) := Lib.hid (by rw [← hw1]; exact (heap_alloc_old w _ hlt).trans HX.out)
  have hg : w.grownBy w1 (some k) := by rw [← hw1]; exact World.grownBy_alloc w _ _
  have hsz : w.heap.size < w1.heap.size := by rw [← hw1]; exact size_new _ _
  clear hw1
  have hc7 := HX1.out.box.c7
  have hc14 : w1.cell? ⟨w.heap.size, 14, none⟩ = some (.int .i64 x.time) := HY.out.box.c14
  have hf14 := HY.out.fro 14
  go_still_tail 12, (by kernel_rfl)
  go_upto_region 6 with fail
  generalize hw2 : World.drew _ = w2
  have HZ : Hid (RowD w2 w.heap.size 77 (nextR x) A c B d C e) := Lib.hid (by rw [← hw2]; exact (HY.out.setT _).drew)
  have HX2 : Hid (RowD w2 k 77 x A c B d C e) := Lib.hid (by rw [← hw2]; exact (HX1.out.oth (Nat.ne_of_lt hlt)).drew)
  have hg2 : w.grownBy w2 (some k) := by rw [← hw2]; exact grown_drew (grown_set hg (Nat.le_refl _))
  have hsz2 : w.heap.size < w2.heap.size := by rw [← hw2]; show _ < (w1.setCell _ _).heap.size; rw [size_setCell]; exact hsz
  clear hw2 HX1 HY hg hsz hc7 hc14 hf14
  go_wp2_with (refine wpList_load_row rfl 77 _ rfl w.heap.size rfl 77 _ (0, 0) _ HZ.out (by rfl) rfl (by kernel_rfl) ?_)
  refine (counted_p (nextR x) A B C c d e w2).mono ?_
  rintro r w3 ⟨rfl, hb⟩
  have HX3 := Lib.hid (HX2.out.keep (N := w2.heap.size) (by omega) hb)
  have HZ3 := Lib.hid (HZ.out.keep (N := w2.heap.size) hsz2 hb)
  have hg3 := grown_bel hg2 hb (Nat.le_of_lt hsz2)
  have hsz3 := Nat.lt_of_lt_of_le hsz2 hb.size
  clear HX2 HZ hg2 hsz2 hb
  cases q : cntB (nextR x) with
  | false =>
    have HE : Hid (resetE x = 11 ∧ resetX x = x) := Lib.hid (by unfold resetE resetX; rw [q]; exact ⟨rfl, rfl⟩)
    clear q
    go_wp2_with fail
    go_ret
    exact ⟨by rw [HE.out.1]; rfl, by rw [HE.out.2]; exact HX3.out, hg3⟩
  | true =>
    have HE : Hid (resetE x = 0 ∧ resetX x = nextR x) := Lib.hid (by unfold resetE resetX; rw [q]; exact ⟨rfl, rfl⟩)
    clear q
    go_wp2_with (first | (refine wpList_load_row rfl 77 _ rfl w.heap.size rfl 77 _ (0, 0) _ HZ3.out (by rfl) rfl (by kernel_rfl) ?_) | (refine wpList_store_row rfl 77 _ _ rfl k _ rfl rfl 77 _ HX3.out (by kernel_rfl) rfl (dc_one _ _ _ _ _ _ _) ?_))
    go_ret
    exact ⟨by rw [HE.out.1]; rfl, by rw [HE.out.2]; exact RowD.put HX3.out (nextR x) A c B d C e, grown_row hg3⟩
end Go.Proofs.Ytpoppadihbgbgaa
