/- Devices: New of both. -/
import Derived.Test.YtpoppadihbgbgaaDev15
namespace Go.Proofs.Ytpoppadihbgbgaa
open Go.RowKit

/-- a new device, before it is checked -/
def newX (x : Dv) : Dv := { x with st := x.S, rdy := false, steps := 0, resets := 0, time := 0 }
def zeroD : Dv := { I := 0, S := 0, nx := [], out := [], st := 0, rdy := false, step := [], rs := 0, lost := 0, wrong := 0, crash := 0, seed := 0, steps := 0, resets := 0, time := 0 }
def neE (x : Dv) : Int := validD (newX x)
def neX (x : Dv) : Dv := if validD (newX x) = 0 then newX x else zeroD
theorem RdD.newX {w : World} {A B C : Option Addr} {x : Dv} (h : RdD w A B C x) : RdD w A B C (newX x) := ⟨h.nx, h.out, h.step⟩
theorem RdD.zero (w : World) : RdD w none none none zeroD := ⟨⟨by decide, fun h => absurd h (by decide)⟩, ⟨by decide, fun h => absurd h (by decide)⟩, RdK.nil⟩
/-- the same with memory of the call's own -/
def DevN (y : Dv) (v : Value) (w : World) (r : Ending) (w' : World) : Prop := (∃ A c B d C e, r = .returned (.tuple #[(Value.agg #[Value.int IntKind.i64 (Dv.I y), Value.int IntKind.i64 (Dv.S y), Value.slice A (Dv.nx y).length c, Value.slice B (Dv.out y).length d, Value.int IntKind.i64 (Dv.st y), Value.bool (Dv.rdy y), Value.slice C (Dv.step y).length e, Value.int IntKind.i64 (Dv.rs y), Value.int IntKind.i64 (Dv.lost y), Value.int IntKind.i64 (Dv.wrong y), Value.int IntKind.i64 (Dv.crash y), Value.int IntKind.u64 (Dv.seed y), Value.int IntKind.i64 (Dv.steps y), Value.int IntKind.i64 (Dv.resets y), Value.int IntKind.i64 (Dv.time y)]), v]) ∧ RdU w' w.heap.size A B C y) ∧ Below w.heap.size w w'
theorem DevN.dev {y : Dv} {v : Value} {w : World} {r : Ending} {w' : World} (h : DevN y v w r w') : DevR y v w r w' := by
  obtain ⟨⟨A, c, B, d, C, e, h1, h2⟩, hb⟩ := h
  exact ⟨⟨A, c, B, d, C, e, h1, h2.rd⟩, hb⟩
set_option maxRecDepth 100000 in
set_option maxHeartbeats 4000000 in
theorem New_u (x : Dv) (A B C : Option Addr) (c d e : Nat) (w : World) (h : RdD w A B C x) :
    Calls Try.prog 19 #[.agg #[.int .i64 x.I, .int .i64 x.S, .slice A x.nx.length c, .slice B x.out.length d], .agg #[.slice C x.step.length e, .int .i64 x.rs], .agg #[.int .i64 x.lost, .int .i64 x.wrong, .int .i64 x.crash], .int .u64 x.seed] w (DevN (neX x) (.int .i64 (neE x)) w) := by
  have HM := Lib.hid h.newX
  clear h
  go_enter Try.func19, Try.ntmps19
  go_wp2_with fail
  obtain ⟨z, hz⟩ : ∃ z : Array Value, z = #[Value.int IntKind.i64 0, Value.int IntKind.i64 0, Value.slice none 0 0, Value.slice none 0 0,
          Value.int IntKind.i64 0, Value.bool false, Value.slice none 0 0, Value.int IntKind.i64 0,
          Value.int IntKind.i64 0, Value.int IntKind.i64 0, Value.int IntKind.i64 0, Value.int IntKind.u64 0,
          Value.int IntKind.i64 0, Value.int IntKind.i64 0, Value.int IntKind.i64 0] := ⟨_, rfl⟩
  rw [← hz]
  have hzs : z.size = 15 := by rw [hz]; rfl
  clear hz
  generalize hw3 : World.alloc (World.alloc (World.alloc w _) _) (Obj.cells #[Value.int IntKind.i64 x.lost, _, _] _) = w3
  have e3 : w3.heap.size = w.heap.size + 1 + 1 + 1 := by rw [← hw3, size_alloc, size_alloc, size_alloc]
  have hb3 : Below w.heap.size w w3 := by rw [← hw3]; exact (((Below.refl _ _).alloc (Nat.le_refl _) _).alloc (by rw [size_alloc]; omega) _).alloc (by rw [size_alloc, size_alloc]; omega) _
  clear hw3
  generalize hw0 : World.alloc _ _ = w0
  have HX : Hid (RowD w0 (w.heap.size + 1 + 1 + 1 + 1) 32 (newX x) A c B d C e) := Lib.hid (by rw [← hw0, ← e3, ← size_alloc w3 (.cells z 32)]; exact Go.heap_alloc_new _ _)
  have HZ : Hid (w0.heap[w.heap.size + 1 + 1 + 1]? = some (.cells z 32)) := Lib.hid (by rw [← hw0, ← e3, heap_alloc_old _ _ (size_new _ _)]; exact Go.heap_alloc_new _ _)
  have hbel : Below w.heap.size w w0 := by rw [← hw0]; exact (hb3.alloc hb3.size _).alloc (by rw [size_alloc]; omega) _
  have hlt : w.heap.size + 1 + 1 + 1 + 1 < w0.heap.size := by rw [← hw0, size_alloc, size_alloc]; omega
  clear hw0 hb3 e3 w3
  refine (validD_p (newX x) A B C c d e w0 (HM.out.keep hbel)).mono ?_
  rintro r w1 ⟨rfl, hb⟩
  replace HX := Lib.hid (HX.out.keep hlt hb)
  replace HZ := Lib.hid ((hb.block _ (Nat.lt_of_succ_lt hlt)).trans HZ.out)
  replace hbel := below_seq hbel hb
  replace hlt := Nat.lt_of_lt_of_le hlt hb.size
  clear hb
  by_cases hv : validD (newX x) = 0
  rotate_left
  · have hb := ne0 hv
    have HE : Hid (neX x = zeroD) := Lib.hid (if_neg hv)
    clear hv
    go_upto_region 4 with fail
    go_wp2_with (first | (refine wpList_load_row rfl 32 _ rfl (w.heap.size + 1 + 1 + 1 + 1) rfl 32 _ (0, 0) _ HX.out Try.underlying32 rfl (by kernel_rfl) ?_) | (refine wpList_store_row rfl 32 _ _ rfl (w.heap.size + 1 + 1 + 1) _ rfl rfl 32 z HZ.out (by kernel_rfl) hzs (dc_one zeroD _ _ _ _ _ _) ?_))
    have hbz := belowRow hbel (show w.heap.size ≤ w.heap.size + 1 + 1 + 1 by omega) (#[Value.int IntKind.i64 (Dv.I zeroD), Value.int IntKind.i64 (Dv.S zeroD), Value.slice none (Dv.nx zeroD).length 0, Value.slice none (Dv.out zeroD).length 0, Value.int IntKind.i64 (Dv.st zeroD), Value.bool (Dv.rdy zeroD), Value.slice none (Dv.step zeroD).length 0, Value.int IntKind.i64 (Dv.rs zeroD), Value.int IntKind.i64 (Dv.lost zeroD), Value.int IntKind.i64 (Dv.wrong zeroD), Value.int IntKind.i64 (Dv.crash zeroD), Value.int IntKind.u64 (Dv.seed zeroD), Value.int IntKind.i64 (Dv.steps zeroD), Value.int IntKind.i64 (Dv.resets zeroD), Value.int IntKind.i64 (Dv.time zeroD)])
    refine ret_d2 (RowD.put HZ.out zeroD none 0 none 0 none 0) rfl rfl rfl ⟨⟨none, 0, none, 0, none, 0, by rw [HE.out]; rfl, ?_⟩, hbz⟩
    rw [HE.out]
    exact fun w' _ => RdD.zero w'
  have HOK := Lib.hid (okD_of hv)
  have HE : Hid (neX x = newX x ∧ neE x = 0) := Lib.hid ⟨if_pos hv, hv⟩
  rw [hv]
  clear hv
  go_upto_region 5 with fail
  go_wp2_with (first | (refine wpList_load_row rfl 32 _ rfl (w.heap.size + 1 + 1 + 1 + 1) rfl 32 _ (0, 0) _ HX.out Try.underlying32 rfl (by kernel_rfl) ?_) | (refine wpList_store_row rfl 32 _ _ rfl (w.heap.size + 1 + 1 + 1) _ rfl rfl 32 z HZ.out (by kernel_rfl) hzs (dc_one _ _ _ _ _ _ _) ?_))
  refine (copied_ok (newX x) A B C c d e w1 (HM.out.keep hbel) HOK.out).mono ?_
  rintro r w2 ⟨⟨A2, c2, B2, d2, C2, e2, rfl, hm2⟩, hb⟩
  replace hm2 := hm2.mono (Nat.le_of_lt hlt)
  have HM2 := Lib.hid hm2
  clear hm2
  replace HX := Lib.hid (HX.out.keep hlt hb)
  replace HZ := Lib.hid ((hb.block _ (Nat.lt_of_succ_lt hlt)).trans HZ.out)
  replace hbel := below_seq hbel hb
  replace hlt := Nat.lt_of_lt_of_le hlt hb.size
  clear hb
  go_wp2_with (first | (refine wpList_load_row rfl 32 _ rfl (w.heap.size + 1 + 1 + 1 + 1) rfl 32 _ (0, 0) _ HX.out Try.underlying32 rfl (by kernel_rfl) ?_) | (refine wpList_store_row rfl 32 _ _ rfl (w.heap.size + 1 + 1 + 1) _ rfl rfl 32 z HZ.out (by kernel_rfl) hzs (dc_one _ _ _ _ _ _ _) ?_))
  have hbz := belowRow hbel (show w.heap.size ≤ w.heap.size + 1 + 1 + 1 by omega) (#[Value.int IntKind.i64 (Dv.I (newX x)), Value.int IntKind.i64 (Dv.S (newX x)), Value.slice A2 (Dv.nx (newX x)).length c2, Value.slice B2 (Dv.out (newX x)).length d2, Value.int IntKind.i64 (Dv.st (newX x)), Value.bool (Dv.rdy (newX x)), Value.slice C2 (Dv.step (newX x)).length e2, Value.int IntKind.i64 (Dv.rs (newX x)), Value.int IntKind.i64 (Dv.lost (newX x)), Value.int IntKind.i64 (Dv.wrong (newX x)), Value.int IntKind.i64 (Dv.crash (newX x)), Value.int IntKind.u64 (Dv.seed (newX x)), Value.int IntKind.i64 (Dv.steps (newX x)), Value.int IntKind.i64 (Dv.resets (newX x)), Value.int IntKind.i64 (Dv.time (newX x))])
  refine ret_d2 (RowD.put HZ.out (newX x) A2 c2 B2 d2 C2 e2) rfl rfl rfl ⟨⟨A2, c2, B2, d2, C2, e2, by rw [HE.out.1, HE.out.2]; rfl, ?_⟩, hbz⟩
  rw [HE.out.1]
  exact (HM2.out.row (Nat.lt_succ_self _) _).mono (by omega)
theorem New_p (x : Dv) (A B C : Option Addr) (c d e : Nat) (w : World) (h : RdD w A B C x) :
    Calls Try.prog 19 #[.agg #[.int .i64 x.I, .int .i64 x.S, .slice A x.nx.length c, .slice B x.out.length d], .agg #[.slice C x.step.length e, .int .i64 x.rs], .agg #[.int .i64 x.lost, .int .i64 x.wrong, .int .i64 x.crash], .int .u64 x.seed] w (DevR (neX x) (.int .i64 (neE x)) w) :=
  (New_u x A B C c d e w h).mono fun _ _ h => h.dev
set_option maxRecDepth 100000 in
set_option maxHeartbeats 4000000 in
theorem New_r (x : Dv) (A B C : Option Addr) (c d e : Nat) (w : World) (h : RdD w A B C x) :
    Calls Try.prog 20 #[.agg #[.int .i64 x.I, .int .i64 x.S, .slice A x.nx.length c, .slice B x.out.length d], .agg #[.slice C x.step.length e, .int .i64 x.rs], .agg #[.int .i64 x.lost, .int .i64 x.wrong, .int .i64 x.crash], .int .u64 x.seed] w (DevR (neX x) (.int .i64 (neE x)) w) := by
  have HM := Lib.hid h.newX
  clear h
  go_enter Try.func20, Try.ntmps20
  go_wp2_with fail
  obtain ⟨z, hz⟩ : ∃ z : Array Value, z = #[Value.int IntKind.i64 0, Value.int IntKind.i64 0, Value.slice none 0 0, Value.slice none 0 0,
          Value.int IntKind.i64 0, Value.bool false, Value.slice none 0 0, Value.int IntKind.i64 0,
          Value.int IntKind.i64 0, Value.int IntKind.i64 0, Value.int IntKind.i64 0, Value.int IntKind.u64 0,
          Value.int IntKind.i64 0, Value.int IntKind.i64 0, Value.int IntKind.i64 0] := ⟨_, rfl⟩
  rw [← hz]
  have hzs : z.size = 15 := by rw [hz]; rfl
  clear hz
  generalize hw3 : World.alloc (World.alloc (World.alloc w _) _) (Obj.cells #[Value.int IntKind.i64 x.lost, _, _] _) = w3
  have e3 : w3.heap.size = w.heap.size + 1 + 1 + 1 := by rw [← hw3, size_alloc, size_alloc, size_alloc]
  have hb3 : Below w.heap.size w w3 := by rw [← hw3]; exact (((Below.refl _ _).alloc (Nat.le_refl _) _).alloc (by rw [size_alloc]; omega) _).alloc (by rw [size_alloc, size_alloc]; omega) _
  clear hw3
  generalize hw0 : World.alloc _ _ = w0
  have HX : Hid (RowD w0 (w.heap.size + 1 + 1 + 1 + 1) 32 (newX x) A c B d C e) := Lib.hid (by rw [← hw0, ← e3, ← size_alloc w3 (.cells z 32)]; exact Go.heap_alloc_new _ _)
  have HZ : Hid (w0.heap[w.heap.size + 1 + 1 + 1]? = some (.cells z 32)) := Lib.hid (by rw [← hw0, ← e3, heap_alloc_old _ _ (size_new _ _)]; exact Go.heap_alloc_new _ _)
  have hbel : Below w.heap.size w w0 := by rw [← hw0]; exact (hb3.alloc hb3.size _).alloc (by rw [size_alloc]; omega) _
  have hlt : w.heap.size + 1 + 1 + 1 + 1 < w0.heap.size := by rw [← hw0, size_alloc, size_alloc]; omega
  clear hw0 hb3 e3 w3
  refine (validD_r (newX x) A B C c d e w0 (HM.out.keep hbel)).mono ?_
  rintro r w1 ⟨rfl, hb⟩
  replace HX := Lib.hid (HX.out.keep hlt hb)
  replace HZ := Lib.hid ((hb.block _ (Nat.lt_of_succ_lt hlt)).trans HZ.out)
  replace hbel := below_seq hbel hb
  replace hlt := Nat.lt_of_lt_of_le hlt hb.size
  clear hb
  by_cases hv : validD (newX x) = 0
  rotate_left
  · have hb := ne0 hv
    have HE : Hid (neX x = zeroD) := Lib.hid (if_neg hv)
    clear hv
    go_upto_region 3 with fail
    go_wp2_with (first | (refine wpList_load_row rfl 32 _ rfl (w.heap.size + 1 + 1 + 1 + 1) rfl 32 _ (0, 0) _ HX.out Try.underlying32 rfl (by kernel_rfl) ?_) | (refine wpList_store_row rfl 32 _ _ rfl (w.heap.size + 1 + 1 + 1) _ rfl rfl 32 z HZ.out (by kernel_rfl) hzs (dc_one zeroD _ _ _ _ _ _) ?_))
    refine (validD_r (newX x) A B C c d e w1 (HM.out.keep hbel)).mono ?_
    rintro r w2 ⟨rfl, hb⟩
    replace HX := Lib.hid (HX.out.keep hlt hb)
    replace HZ := Lib.hid ((hb.block _ (Nat.lt_of_succ_lt hlt)).trans HZ.out)
    replace hbel := below_seq hbel hb
    replace hlt := Nat.lt_of_lt_of_le hlt hb.size
    clear hb
    go_wp2_with (first | (refine wpList_load_row rfl 32 _ rfl (w.heap.size + 1 + 1 + 1 + 1) rfl 32 _ (0, 0) _ HX.out Try.underlying32 rfl (by kernel_rfl) ?_) | (refine wpList_store_row rfl 32 _ _ rfl (w.heap.size + 1 + 1 + 1) _ rfl rfl 32 z HZ.out (by kernel_rfl) hzs (dc_one zeroD _ _ _ _ _ _) ?_))
    have hbz := belowRow hbel (show w.heap.size ≤ w.heap.size + 1 + 1 + 1 by omega) (#[Value.int IntKind.i64 (Dv.I zeroD), Value.int IntKind.i64 (Dv.S zeroD), Value.slice none (Dv.nx zeroD).length 0, Value.slice none (Dv.out zeroD).length 0, Value.int IntKind.i64 (Dv.st zeroD), Value.bool (Dv.rdy zeroD), Value.slice none (Dv.step zeroD).length 0, Value.int IntKind.i64 (Dv.rs zeroD), Value.int IntKind.i64 (Dv.lost zeroD), Value.int IntKind.i64 (Dv.wrong zeroD), Value.int IntKind.i64 (Dv.crash zeroD), Value.int IntKind.u64 (Dv.seed zeroD), Value.int IntKind.i64 (Dv.steps zeroD), Value.int IntKind.i64 (Dv.resets zeroD), Value.int IntKind.i64 (Dv.time zeroD)])
    refine ret_d2 (RowD.put HZ.out zeroD none 0 none 0 none 0) rfl rfl rfl ⟨⟨none, 0, none, 0, none, 0, by rw [HE.out]; rfl, ?_⟩, hbz⟩
    rw [HE.out]
    exact RdD.zero _
  have HE : Hid (neX x = newX x ∧ neE x = 0) := Lib.hid ⟨if_pos hv, hv⟩
  rw [hv]
  clear hv
  go_upto_region 4 with fail
  go_wp2_with (first | (refine wpList_load_row rfl 32 _ rfl (w.heap.size + 1 + 1 + 1 + 1) rfl 32 _ (0, 0) _ HX.out Try.underlying32 rfl (by kernel_rfl) ?_) | (refine wpList_store_row rfl 32 _ _ rfl (w.heap.size + 1 + 1 + 1) _ rfl rfl 32 z HZ.out (by kernel_rfl) hzs (dc_one _ _ _ _ _ _ _) ?_))
  have hbz := belowRow hbel (show w.heap.size ≤ w.heap.size + 1 + 1 + 1 by omega) (#[Value.int IntKind.i64 (Dv.I (newX x)), Value.int IntKind.i64 (Dv.S (newX x)), Value.slice A (Dv.nx (newX x)).length c, Value.slice B (Dv.out (newX x)).length d, Value.int IntKind.i64 (Dv.st (newX x)), Value.bool (Dv.rdy (newX x)), Value.slice C (Dv.step (newX x)).length e, Value.int IntKind.i64 (Dv.rs (newX x)), Value.int IntKind.i64 (Dv.lost (newX x)), Value.int IntKind.i64 (Dv.wrong (newX x)), Value.int IntKind.i64 (Dv.crash (newX x)), Value.int IntKind.u64 (Dv.seed (newX x)), Value.int IntKind.i64 (Dv.steps (newX x)), Value.int IntKind.i64 (Dv.resets (newX x)), Value.int IntKind.i64 (Dv.time (newX x))])
  refine ret_d2 (RowD.put HZ.out (newX x) A c B d C e) rfl rfl rfl ⟨⟨A, c, B, d, C, e, by rw [HE.out.1, HE.out.2]; rfl, ?_⟩, hbz⟩
  rw [HE.out.1]
  exact HM.out.keep hbz
end Go.Proofs.Ytpoppadihbgbgaa
