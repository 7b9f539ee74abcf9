/- Devices: Reset and Step of the program. -/
import Derived.Test.YtpoppadihbgbgaaDev11
namespace Go.Proofs.Ytpoppadihbgbgaa
open Go.RowKit

/-- what a call that gives a device and an error returns -/
def DevR (y : Dv) (v : Value) (w : World) (r : Ending) (w' : World) : Prop := (∃ A c B d C e, r = .returned (.tuple #[(Value.agg #[Value.int IntKind.i64 (Dv.I y), Value.int IntKind.i64 (Dv.S y), Value.slice A (Dv.nx y).length c, Value.slice B (Dv.out y).length d, Value.int IntKind.i64 (Dv.st y), Value.bool (Dv.rdy y), Value.slice C (Dv.step y).length e, Value.int IntKind.i64 (Dv.rs y), Value.int IntKind.i64 (Dv.lost y), Value.int IntKind.i64 (Dv.wrong y), Value.int IntKind.i64 (Dv.crash y), Value.int IntKind.u64 (Dv.seed y), Value.int IntKind.i64 (Dv.steps y), Value.int IntKind.i64 (Dv.resets y), Value.int IntKind.i64 (Dv.time y)]), v]) ∧ RdD w' A B C y) ∧ Below w.heap.size w w'
def DevS (y : Dv) (u v : Value) (w : World) (r : Ending) (w' : World) : Prop := (∃ A c B d C e, r = .returned (.tuple #[(Value.agg #[Value.int IntKind.i64 (Dv.I y), Value.int IntKind.i64 (Dv.S y), Value.slice A (Dv.nx y).length c, Value.slice B (Dv.out y).length d, Value.int IntKind.i64 (Dv.st y), Value.bool (Dv.rdy y), Value.slice C (Dv.step y).length e, Value.int IntKind.i64 (Dv.rs y), Value.int IntKind.i64 (Dv.lost y), Value.int IntKind.i64 (Dv.wrong y), Value.int IntKind.i64 (Dv.crash y), Value.int IntKind.u64 (Dv.seed y), Value.int IntKind.i64 (Dv.steps y), Value.int IntKind.i64 (Dv.resets y), Value.int IntKind.i64 (Dv.time y)]), u, v]) ∧ RdD w' A B C y) ∧ Below w.heap.size w w'
def rsE (x : Dv) : Int := if validD x = 0 then resetE x else validD x
def rsX (x : Dv) : Dv := if validD x = 0 then resetX x else x
noncomputable def spE (x : Dv) (a : Int) : Int := if validD x = 0 then stepE x a else validD x
noncomputable def spO (x : Dv) (a : Int) : Int := if validD x = 0 then stepO x a else 0
noncomputable def spX (x : Dv) (a : Int) : Dv := if validD x = 0 then stepX x a else x
theorem copied_ok (x : Dv) (A B C : Option Addr) (c d e : Nat) (w : World) (h : RdD w A B C x) (ok : OkD x) :
    Calls Try.prog 30 #[(Value.agg #[Value.int IntKind.i64 (Dv.I x), Value.int IntKind.i64 (Dv.S x), Value.slice A (Dv.nx x).length c, Value.slice B (Dv.out x).length d, Value.int IntKind.i64 (Dv.st x), Value.bool (Dv.rdy x), Value.slice C (Dv.step x).length e, Value.int IntKind.i64 (Dv.rs x), Value.int IntKind.i64 (Dv.lost x), Value.int IntKind.i64 (Dv.wrong x), Value.int IntKind.i64 (Dv.crash x), Value.int IntKind.u64 (Dv.seed x), Value.int IntKind.i64 (Dv.steps x), Value.int IntKind.i64 (Dv.resets x), Value.int IntKind.i64 (Dv.time x)])] w fun r w' => (∃ A' c' B' d' C' e', r = .returned ((Value.agg #[Value.int IntKind.i64 (Dv.I x), Value.int IntKind.i64 (Dv.S x), Value.slice A' (Dv.nx x).length c', Value.slice B' (Dv.out x).length d', Value.int IntKind.i64 (Dv.st x), Value.bool (Dv.rdy x), Value.slice C' (Dv.step x).length e', Value.int IntKind.i64 (Dv.rs x), Value.int IntKind.i64 (Dv.lost x), Value.int IntKind.i64 (Dv.wrong x), Value.int IntKind.i64 (Dv.crash x), Value.int IntKind.u64 (Dv.seed x), Value.int IntKind.i64 (Dv.steps x), Value.int IntKind.i64 (Dv.resets x), Value.int IntKind.i64 (Dv.time x)])) ∧ RdU w' w.heap.size A' B' C' x) ∧ Below w.heap.size w w' := by
  have h1 := ok.m.n128
  have h2 := ok.m.o
  have h3 := ok.I1
  have h4 := ok.len
  refine copied_p x A B C c d e w h (by omega) (by omega) (by omega) (fun i hi => ?_) (fun i hi => ?_)
  · rw [ok.m.rowN i hi]; omega
  · rw [ok.m.rowO i (by omega)]; omega
theorem below_of {w w' : World} {k : Nat} {o : Obj} (h : (w.alloc o).grownBy w' (some k)) (hk : k = w.heap.size) : Below w.heap.size w w' := by
  subst hk
  exact ⟨h.os, h.tape, h.output, Nat.le_trans (Nat.le_of_lt (size_new w o)) h.size, fun b hb => (h.block b (Nat.lt_trans hb (size_new w o)) (by intro e; cases e; exact Nat.lt_irrefl _ hb)).trans (heap_alloc_old w o hb)⟩
theorem RdD.resetX {w : World} {A B C : Option Addr} {x : Dv} (h : RdD w A B C x) : RdD w A B C (resetX x) := by
  unfold Go.Proofs.Ytpoppadihbgbgaa.resetX
  split
  · exact ⟨h.nx, h.out, h.step⟩
  · exact h
theorem RdD.stepX {w : World} {A B C : Option Addr} {x : Dv} (h : RdD w A B C x) (a : Int) : RdD w A B C (stepX x a) := by
  unfold Go.Proofs.Ytpoppadihbgbgaa.stepX
  split
  · exact ⟨h.nx, h.out, h.step⟩
  · exact h
theorem resetX_ne {x : Dv} (h : ¬ resetE x = 0) : Go.Proofs.Ytpoppadihbgbgaa.resetX x = x := by
  unfold resetE at h
  unfold Go.Proofs.Ytpoppadihbgbgaa.resetX
  split at h
  · exact absurd rfl h
  · rename_i hc; rw [if_neg hc]
set_option maxRecDepth 100000 in
set_option maxHeartbeats 4000000 in
theorem Reset_p (x : Dv) (A B C : Option Addr) (c d e : Nat) (w : World) (h : RdD w A B C x) :
    Calls Try.prog 10 #[(Value.agg #[Value.int IntKind.i64 (Dv.I x), Value.int IntKind.i64 (Dv.S x), Value.slice A (Dv.nx x).length c, Value.slice B (Dv.out x).length d, Value.int IntKind.i64 (Dv.st x), Value.bool (Dv.rdy x), Value.slice C (Dv.step x).length e, Value.int IntKind.i64 (Dv.rs x), Value.int IntKind.i64 (Dv.lost x), Value.int IntKind.i64 (Dv.wrong x), Value.int IntKind.i64 (Dv.crash x), Value.int IntKind.u64 (Dv.seed x), Value.int IntKind.i64 (Dv.steps x), Value.int IntKind.i64 (Dv.resets x), Value.int IntKind.i64 (Dv.time x)])] w (DevR (rsX x) (.int .i64 (rsE x)) w) := by
  have HM := Lib.hid h
  clear h
  go_enter Try.func10, Try.ntmps10
  go_wp2_with fail
  obtain ⟨z, hz⟩ : ∃ z : Array Value, z = #[Value.int IntKind.i64 0, Value.int IntKind.i64 0, Value.slice none 0 0, Value.slice none 0 0,
          Value.int IntKind.i64 0, Value.bool false, Value.slice none 0 0, Value.int IntKind.i64 0,
          Value.int IntKind.i64 0, Value.int IntKind.i64 0, Value.int IntKind.i64 0, Value.int IntKind.u64 0,
          Value.int IntKind.i64 0, Value.int IntKind.i64 0, Value.int IntKind.i64 0] := ⟨_, rfl⟩
  rw [← hz]
  have hzs : z.size = 15 := by rw [hz]; rfl
  clear hz
  obtain ⟨w0, hw0⟩ : ∃ w0, w0 = (w.alloc (.cells (#[Value.int IntKind.i64 (Dv.I x), Value.int IntKind.i64 (Dv.S x), Value.slice A (Dv.nx x).length c, Value.slice B (Dv.out x).length d, Value.int IntKind.i64 (Dv.st x), Value.bool (Dv.rdy x), Value.slice C (Dv.step x).length e, Value.int IntKind.i64 (Dv.rs x), Value.int IntKind.i64 (Dv.lost x), Value.int IntKind.i64 (Dv.wrong x), Value.int IntKind.i64 (Dv.crash x), Value.int IntKind.u64 (Dv.seed x), Value.int IntKind.i64 (Dv.steps x), Value.int IntKind.i64 (Dv.resets x), Value.int IntKind.i64 (Dv.time x)]) 32)).alloc (.cells z 32) := ⟨_, rfl⟩
  have HX : Hid (RowD w0 w.heap.size 32 x A c B d C e) := Lib.hid (by rw [hw0]; unfold RowD; rw [heap_alloc_old _ _ (size_new _ _), heap_alloc_new])
  have HZ : Hid (w0.heap[w.heap.size + 1]? = some (.cells z 32)) := Lib.hid (by rw [hw0, ← size_alloc w (.cells (#[Value.int IntKind.i64 (Dv.I x), Value.int IntKind.i64 (Dv.S x), Value.slice A (Dv.nx x).length c, Value.slice B (Dv.out x).length d, Value.int IntKind.i64 (Dv.st x), Value.bool (Dv.rdy x), Value.slice C (Dv.step x).length e, Value.int IntKind.i64 (Dv.rs x), Value.int IntKind.i64 (Dv.lost x), Value.int IntKind.i64 (Dv.wrong x), Value.int IntKind.i64 (Dv.crash x), Value.int IntKind.u64 (Dv.seed x), Value.int IntKind.i64 (Dv.steps x), Value.int IntKind.i64 (Dv.resets x), Value.int IntKind.i64 (Dv.time x)]) 32), heap_alloc_new])
  have hbel : Below w.heap.size w w0 := by rw [hw0]; exact ((Below.refl _ _).alloc (Nat.le_refl _) _).alloc (by rw [size_alloc]; omega) _
  have hlt : w.heap.size + 1 < w0.heap.size := by rw [hw0, size_alloc, size_alloc]; omega
  rw [← hw0]
  clear hw0
  refine (validD_p x A B C c d e w0 (HM.out.keep hbel)).mono ?_
  rintro r w1 ⟨rfl, hb⟩
  replace HX := Lib.hid (HX.out.keep (Nat.lt_of_succ_lt hlt) hb)
  replace HZ := Lib.hid ((hb.block _ hlt).trans HZ.out)
  replace hbel := below_seq hbel hb
  replace hlt := Nat.lt_of_lt_of_le hlt hb.size
  clear hb
  by_cases hv : validD x = 0
  rotate_left
  · have hb := ne0 hv
    have HE : Hid (rsE x = validD x ∧ rsX x = x) := Lib.hid ⟨if_neg hv, if_neg hv⟩
    clear hv
    go_wp2_with (first | (refine wpList_load_row rfl 32 _ rfl w.heap.size rfl 32 _ (0, 0) _ HX.out (by rfl) rfl (by kernel_rfl) ?_) | (refine wpList_store_row rfl 32 _ _ rfl (w.heap.size + 1) _ rfl rfl 32 z HZ.out (by kernel_rfl) hzs (dc_one _ _ _ _ _ _ _) ?_))
    have hbz := belowRow hbel (Nat.le_succ w.heap.size) (#[Value.int IntKind.i64 (Dv.I x), Value.int IntKind.i64 (Dv.S x), Value.slice A (Dv.nx x).length c, Value.slice B (Dv.out x).length d, Value.int IntKind.i64 (Dv.st x), Value.bool (Dv.rdy x), Value.slice C (Dv.step x).length e, Value.int IntKind.i64 (Dv.rs x), Value.int IntKind.i64 (Dv.lost x), Value.int IntKind.i64 (Dv.wrong x), Value.int IntKind.i64 (Dv.crash x), Value.int IntKind.u64 (Dv.seed x), Value.int IntKind.i64 (Dv.steps x), Value.int IntKind.i64 (Dv.resets x), Value.int IntKind.i64 (Dv.time x)])
    refine ret_d2 (RowD.put HZ.out x A c B d C e) rfl rfl rfl ⟨⟨A, c, B, d, C, e, by rw [HE.out.1, HE.out.2]; rfl, ?_⟩, hbz⟩
    rw [HE.out.2]
    exact HM.out.keep hbz
  have HOK := Lib.hid (okD_of hv)
  have HE : Hid (rsE x = resetE x ∧ rsX x = resetX x) := Lib.hid ⟨if_pos hv, if_pos hv⟩
  rw [hv]
  clear hv
  go_wp2_with (refine wpList_load_row rfl 32 _ rfl w.heap.size rfl 32 _ (0, 0) _ HX.out (by rfl) rfl (by kernel_rfl) ?_)
  refine (copied_ok x A B C c d e w1 (HM.out.keep hbel) HOK.out).mono ?_
  rintro r w2 ⟨⟨A2, c2, B2, d2, C2, e2, rfl, hm2⟩, hb⟩
  replace hm2 := hm2.mono (Nat.succ_le_of_lt hlt)
  replace HX := Lib.hid (HX.out.keep (Nat.lt_of_succ_lt hlt) hb)
  replace HZ := Lib.hid ((hb.block _ hlt).trans HZ.out)
  replace hbel := below_seq hbel hb
  replace hlt := Nat.lt_of_lt_of_le hlt hb.size
  clear hb
  have HM2 := Lib.hid hm2
  clear hm2
  go_wp2_with fail
  refine (reset_u x A2 B2 C2 c2 d2 e2 _ w2.heap.size (Go.heap_alloc_new w2 _) HOK.out.resets0 HOK.out.resets1 HOK.out.time0 HOK.out.time1 HOK.out.rs0 HOK.out.rs1).mono ?_
  rintro r w3 ⟨rfl, hk, hg⟩
  have hb := below_of hg rfl
  have HM3 := Lib.hid (HM2.out.keep hb)
  have HK := Lib.hid hk
  replace HX := Lib.hid (HX.out.keep (Nat.lt_of_succ_lt hlt) hb)
  replace HZ := Lib.hid ((hb.block _ hlt).trans HZ.out)
  replace hbel := below_seq hbel hb
  replace hlt := Nat.lt_of_lt_of_le hlt hb.size
  clear hb
  clear hk hg HM2
  by_cases hr : resetE x = 0
  rotate_left
  · have hb := ne0 hr
    have HR := Lib.hid (resetX_ne hr)
    clear hr
    go_wp2_with (first | (refine wpList_load_row rfl 32 _ rfl w.heap.size rfl 32 _ (0, 0) _ HX.out (by rfl) rfl (by kernel_rfl) ?_) | (refine wpList_store_row rfl 32 _ _ rfl (w.heap.size + 1) _ rfl rfl 32 z HZ.out (by kernel_rfl) hzs (dc_one _ _ _ _ _ _ _) ?_))
    have hbz := belowRow hbel (Nat.le_succ w.heap.size) (#[Value.int IntKind.i64 (Dv.I x), Value.int IntKind.i64 (Dv.S x), Value.slice A (Dv.nx x).length c, Value.slice B (Dv.out x).length d, Value.int IntKind.i64 (Dv.st x), Value.bool (Dv.rdy x), Value.slice C (Dv.step x).length e, Value.int IntKind.i64 (Dv.rs x), Value.int IntKind.i64 (Dv.lost x), Value.int IntKind.i64 (Dv.wrong x), Value.int IntKind.i64 (Dv.crash x), Value.int IntKind.u64 (Dv.seed x), Value.int IntKind.i64 (Dv.steps x), Value.int IntKind.i64 (Dv.resets x), Value.int IntKind.i64 (Dv.time x)])
    refine ret_d2 (RowD.put HZ.out x A c B d C e) rfl rfl rfl ⟨⟨A, c, B, d, C, e, by rw [HE.out.1, HE.out.2, HR.out]; rfl, ?_⟩, hbz⟩
    rw [HE.out.2, HR.out]
    exact HM.out.keep hbz
  have HR := Lib.hid hr
  rw [hr]
  clear hr
  go_wp2_with (first | (refine wpList_load_row rfl 32 _ rfl w2.heap.size rfl 77 _ (0, 0) _ HK.out (by rfl) rfl (by kernel_rfl) ?_) | (refine wpList_store_row rfl 32 _ _ rfl (w.heap.size + 1) _ rfl rfl 32 z HZ.out (by kernel_rfl) hzs (dc_one _ _ _ _ _ _ _) ?_))
  have hbz := belowRow hbel (Nat.le_succ w.heap.size) (#[Value.int IntKind.i64 (Dv.I (resetX x)), Value.int IntKind.i64 (Dv.S (resetX x)), Value.slice A2 (Dv.nx (resetX x)).length c2, Value.slice B2 (Dv.out (resetX x)).length d2, Value.int IntKind.i64 (Dv.st (resetX x)), Value.bool (Dv.rdy (resetX x)), Value.slice C2 (Dv.step (resetX x)).length e2, Value.int IntKind.i64 (Dv.rs (resetX x)), Value.int IntKind.i64 (Dv.lost (resetX x)), Value.int IntKind.i64 (Dv.wrong (resetX x)), Value.int IntKind.i64 (Dv.crash (resetX x)), Value.int IntKind.u64 (Dv.seed (resetX x)), Value.int IntKind.i64 (Dv.steps (resetX x)), Value.int IntKind.i64 (Dv.resets (resetX x)), Value.int IntKind.i64 (Dv.time (resetX x))])
  refine ret_d2 (RowD.put HZ.out (resetX x) A2 c2 B2 d2 C2 e2) rfl rfl rfl ⟨⟨A2, c2, B2, d2, C2, e2, by rw [HE.out.1, HE.out.2, HR.out]; rfl, ?_⟩, hbz⟩
  rw [HE.out.2]
  exact (HM3.out.row (by omega) _).rd.resetX
set_option maxRecDepth 100000 in
set_option maxHeartbeats 4000000 in
theorem Step_p (x : Dv) (a : Int) (A B C : Option Addr) (c d e : Nat) (w : World) (h : RdD w A B C x) (s0 : 0 ≤ x.seed) (s1 : x.seed < 18446744073709551616) :
    Calls Try.prog 13 #[(Value.agg #[Value.int IntKind.i64 (Dv.I x), Value.int IntKind.i64 (Dv.S x), Value.slice A (Dv.nx x).length c, Value.slice B (Dv.out x).length d, Value.int IntKind.i64 (Dv.st x), Value.bool (Dv.rdy x), Value.slice C (Dv.step x).length e, Value.int IntKind.i64 (Dv.rs x), Value.int IntKind.i64 (Dv.lost x), Value.int IntKind.i64 (Dv.wrong x), Value.int IntKind.i64 (Dv.crash x), Value.int IntKind.u64 (Dv.seed x), Value.int IntKind.i64 (Dv.steps x), Value.int IntKind.i64 (Dv.resets x), Value.int IntKind.i64 (Dv.time x)]), .int .i64 a] w (DevS (spX x a) (.int .i64 (spO x a)) (.int .i64 (spE x a)) w) := by
  have HM := Lib.hid h
  clear h
  go_enter Try.func13, Try.ntmps13
  go_wp2_with fail
  obtain ⟨z, hz⟩ : ∃ z : Array Value, z = #[Value.int IntKind.i64 0, Value.int IntKind.i64 0, Value.slice none 0 0, Value.slice none 0 0,
          Value.int IntKind.i64 0, Value.bool false, Value.slice none 0 0, Value.int IntKind.i64 0,
          Value.int IntKind.i64 0, Value.int IntKind.i64 0, Value.int IntKind.i64 0, Value.int IntKind.u64 0,
          Value.int IntKind.i64 0, Value.int IntKind.i64 0, Value.int IntKind.i64 0] := ⟨_, rfl⟩
  rw [← hz]
  have hzs : z.size = 15 := by rw [hz]; rfl
  clear hz
  obtain ⟨w0, hw0⟩ : ∃ w0, w0 = (w.alloc (.cells (#[Value.int IntKind.i64 (Dv.I x), Value.int IntKind.i64 (Dv.S x), Value.slice A (Dv.nx x).length c, Value.slice B (Dv.out x).length d, Value.int IntKind.i64 (Dv.st x), Value.bool (Dv.rdy x), Value.slice C (Dv.step x).length e, Value.int IntKind.i64 (Dv.rs x), Value.int IntKind.i64 (Dv.lost x), Value.int IntKind.i64 (Dv.wrong x), Value.int IntKind.i64 (Dv.crash x), Value.int IntKind.u64 (Dv.seed x), Value.int IntKind.i64 (Dv.steps x), Value.int IntKind.i64 (Dv.resets x), Value.int IntKind.i64 (Dv.time x)]) 32)).alloc (.cells z 32) := ⟨_, rfl⟩
  have HX : Hid (RowD w0 w.heap.size 32 x A c B d C e) := Lib.hid (by rw [hw0]; unfold RowD; rw [heap_alloc_old _ _ (size_new _ _), heap_alloc_new])
  have HZ : Hid (w0.heap[w.heap.size + 1]? = some (.cells z 32)) := Lib.hid (by rw [hw0, ← size_alloc w (.cells (#[Value.int IntKind.i64 (Dv.I x), Value.int IntKind.i64 (Dv.S x), Value.slice A (Dv.nx x).length c, Value.slice B (Dv.out x).length d, Value.int IntKind.i64 (Dv.st x), Value.bool (Dv.rdy x), Value.slice C (Dv.step x).length e, Value.int IntKind.i64 (Dv.rs x), Value.int IntKind.i64 (Dv.lost x), Value.int IntKind.i64 (Dv.wrong x), Value.int IntKind.i64 (Dv.crash x), Value.int IntKind.u64 (Dv.seed x), Value.int IntKind.i64 (Dv.steps x), Value.int IntKind.i64 (Dv.resets x), Value.int IntKind.i64 (Dv.time x)]) 32), heap_alloc_new])
  have hbel : Below w.heap.size w w0 := by rw [hw0]; exact ((Below.refl _ _).alloc (Nat.le_refl _) _).alloc (by rw [size_alloc]; omega) _
  have hlt : w.heap.size + 1 < w0.heap.size := by rw [hw0, size_alloc, size_alloc]; omega
  rw [← hw0]
  clear hw0
  refine (validD_p x A B C c d e w0 (HM.out.keep hbel)).mono ?_
  rintro r w1 ⟨rfl, hb⟩
  replace HX := Lib.hid (HX.out.keep (Nat.lt_of_succ_lt hlt) hb)
  replace HZ := Lib.hid ((hb.block _ hlt).trans HZ.out)
  replace hbel := below_seq hbel hb
  replace hlt := Nat.lt_of_lt_of_le hlt hb.size
  clear hb
  by_cases hv : validD x = 0
  rotate_left
  · have hb := ne0 hv
    have HE : Hid (spE x a = validD x ∧ spX x a = x ∧ spO x a = 0) := Lib.hid ⟨if_neg hv, if_neg hv, if_neg hv⟩
    clear hv
    go_wp2_with (first | (refine wpList_load_row rfl 32 _ rfl w.heap.size rfl 32 _ (0, 0) _ HX.out (by rfl) rfl (by kernel_rfl) ?_) | (refine wpList_store_row rfl 32 _ _ rfl (w.heap.size + 1) _ rfl rfl 32 z HZ.out (by kernel_rfl) hzs (dc_one _ _ _ _ _ _ _) ?_))
    have hbz := belowRow hbel (Nat.le_succ w.heap.size) (#[Value.int IntKind.i64 (Dv.I x), Value.int IntKind.i64 (Dv.S x), Value.slice A (Dv.nx x).length c, Value.slice B (Dv.out x).length d, Value.int IntKind.i64 (Dv.st x), Value.bool (Dv.rdy x), Value.slice C (Dv.step x).length e, Value.int IntKind.i64 (Dv.rs x), Value.int IntKind.i64 (Dv.lost x), Value.int IntKind.i64 (Dv.wrong x), Value.int IntKind.i64 (Dv.crash x), Value.int IntKind.u64 (Dv.seed x), Value.int IntKind.i64 (Dv.steps x), Value.int IntKind.i64 (Dv.resets x), Value.int IntKind.i64 (Dv.time x)])
    refine ret_d3 (RowD.put HZ.out x A c B d C e) rfl rfl rfl ⟨⟨A, c, B, d, C, e, by rw [HE.out.1, HE.out.2.1, HE.out.2.2]; rfl, ?_⟩, hbz⟩
    rw [HE.out.2.1]
    exact HM.out.keep hbz
  have HOK := Lib.hid (okD_of hv)
  have HE : Hid (spE x a = stepE x a ∧ spX x a = stepX x a ∧ spO x a = stepO x a) := Lib.hid ⟨if_pos hv, if_pos hv, if_pos hv⟩
  rw [hv]
  clear hv
  go_wp2_with (refine wpList_load_row rfl 32 _ rfl w.heap.size rfl 32 _ (0, 0) _ HX.out (by rfl) rfl (by kernel_rfl) ?_)
  refine (copied_ok x A B C c d e w1 (HM.out.keep hbel) HOK.out).mono ?_
  rintro r w2 ⟨⟨A2, c2, B2, d2, C2, e2, rfl, hm2⟩, hb⟩
  replace hm2 := hm2.mono (Nat.succ_le_of_lt hlt)
  replace HX := Lib.hid (HX.out.keep (Nat.lt_of_succ_lt hlt) hb)
  replace HZ := Lib.hid ((hb.block _ hlt).trans HZ.out)
  replace hbel := below_seq hbel hb
  replace hlt := Nat.lt_of_lt_of_le hlt hb.size
  clear hb
  have HM2 := Lib.hid hm2
  clear hm2
  go_wp2_with fail
  refine (step_u x a A2 B2 C2 c2 d2 e2 _ w2.heap.size (Go.heap_alloc_new w2 _) (HM2.out.rd.keep ((Below.refl _ _).alloc (Nat.le_refl _) _)) ⟨HOK.out, s0, s1⟩).mono ?_
  rintro r w3 ⟨rfl, hk, hg⟩
  have hb := below_of hg rfl
  have HM3 := Lib.hid (HM2.out.keep hb)
  have HK := Lib.hid hk
  replace HX := Lib.hid (HX.out.keep (Nat.lt_of_succ_lt hlt) hb)
  replace HZ := Lib.hid ((hb.block _ hlt).trans HZ.out)
  replace hbel := below_seq hbel hb
  replace hlt := Nat.lt_of_lt_of_le hlt hb.size
  clear hb
  clear hk hg HM2
  by_cases hr : stepE x a = 0
  rotate_left
  · have hb := ne0 hr
    have HR := Lib.hid (And.intro (stepX_ne hr) (stepO_ne hr))
    clear hr
    go_wp2_with (first | (refine wpList_load_row rfl 32 _ rfl w.heap.size rfl 32 _ (0, 0) _ HX.out (by rfl) rfl (by kernel_rfl) ?_) | (refine wpList_store_row rfl 32 _ _ rfl (w.heap.size + 1) _ rfl rfl 32 z HZ.out (by kernel_rfl) hzs (dc_one _ _ _ _ _ _ _) ?_))
    have hbz := belowRow hbel (Nat.le_succ w.heap.size) (#[Value.int IntKind.i64 (Dv.I x), Value.int IntKind.i64 (Dv.S x), Value.slice A (Dv.nx x).length c, Value.slice B (Dv.out x).length d, Value.int IntKind.i64 (Dv.st x), Value.bool (Dv.rdy x), Value.slice C (Dv.step x).length e, Value.int IntKind.i64 (Dv.rs x), Value.int IntKind.i64 (Dv.lost x), Value.int IntKind.i64 (Dv.wrong x), Value.int IntKind.i64 (Dv.crash x), Value.int IntKind.u64 (Dv.seed x), Value.int IntKind.i64 (Dv.steps x), Value.int IntKind.i64 (Dv.resets x), Value.int IntKind.i64 (Dv.time x)])
    refine ret_d3 (RowD.put HZ.out x A c B d C e) rfl rfl rfl ⟨⟨A, c, B, d, C, e, by rw [HE.out.1, HE.out.2.1, HE.out.2.2, HR.out.1, HR.out.2]; rfl, ?_⟩, hbz⟩
    rw [HE.out.2.1, HR.out.1]
    exact HM.out.keep hbz
  have HR := Lib.hid hr
  rw [hr]
  clear hr
  go_wp2_with (first | (refine wpList_load_row rfl 32 _ rfl w2.heap.size rfl 77 _ (0, 0) _ HK.out (by rfl) rfl (by kernel_rfl) ?_) | (refine wpList_store_row rfl 32 _ _ rfl (w.heap.size + 1) _ rfl rfl 32 z HZ.out (by kernel_rfl) hzs (dc_one _ _ _ _ _ _ _) ?_))
  have hbz := belowRow hbel (Nat.le_succ w.heap.size) (#[Value.int IntKind.i64 (Dv.I (stepX x a)), Value.int IntKind.i64 (Dv.S (stepX x a)), Value.slice A2 (Dv.nx (stepX x a)).length c2, Value.slice B2 (Dv.out (stepX x a)).length d2, Value.int IntKind.i64 (Dv.st (stepX x a)), Value.bool (Dv.rdy (stepX x a)), Value.slice C2 (Dv.step (stepX x a)).length e2, Value.int IntKind.i64 (Dv.rs (stepX x a)), Value.int IntKind.i64 (Dv.lost (stepX x a)), Value.int IntKind.i64 (Dv.wrong (stepX x a)), Value.int IntKind.i64 (Dv.crash (stepX x a)), Value.int IntKind.u64 (Dv.seed (stepX x a)), Value.int IntKind.i64 (Dv.steps (stepX x a)), Value.int IntKind.i64 (Dv.resets (stepX x a)), Value.int IntKind.i64 (Dv.time (stepX x a))])
  refine ret_d3 (RowD.put HZ.out (stepX x a) A2 c2 B2 d2 C2 e2) rfl rfl rfl ⟨⟨A2, c2, B2, d2, C2, e2, by rw [HE.out.1, HE.out.2.1, HE.out.2.2, HR.out]; rfl, ?_⟩, hbz⟩
  rw [HE.out.2.1]
  exact (HM3.out.row (by omega) _).rd.stepX a
end Go.Proofs.Ytpoppadihbgbgaa
