/- Devices: Query of the program. -/
import Derived.Test.YtpoppadihbgbgaaDev12
import Derived.Test.YtpoppadihbgbgaaCheck
namespace Go.Proofs.Ytpoppadihbgbgaa
open Go.RowKit

noncomputable def runQ (y : Dv) (out : List Int) : List Int → Dv × List Int × Int
  | [] => (y, out, 0)
  | a :: w => if stepE y a = 0 then (if stepO y a < 0 ∨ ((stepX y a).rdy = false ∧ w ≠ []) then (stepX y a, [], 14) else runQ (stepX y a) (out ++ [stepO y a]) w) else (stepX y a, [], stepE y a)
theorem drop_at {w : List Int} {j : Nat} (h : j < w.length) : w.drop j = w.getD j 0 :: w.drop (j + 1) := by
  rw [List.drop_eq_getElem_cons h, List.getD_eq_getElem?_getD, List.getElem?_eq_getElem h]; rfl
theorem runQ_end (y : Dv) (out w : List Int) : runQ y out (w.drop w.length) = (y, out, 0) := by rw [List.drop_length]; rfl
theorem runQ_err {y : Dv} {out w : List Int} {j : Nat} (h : j < w.length) (h0 : ¬ stepE y (w.getD j 0) = 0) : runQ y out (w.drop j) = (stepX y (w.getD j 0), [], stepE y (w.getD j 0)) := by
  rw [drop_at h, runQ, if_neg h0]
theorem runQ_neg {y : Dv} {out w : List Int} {j : Nat} (h : j < w.length) (h0 : stepE y (w.getD j 0) = 0) (h1 : stepO y (w.getD j 0) < 0) : runQ y out (w.drop j) = (stepX y (w.getD j 0), [], 14) := by
  rw [drop_at h, runQ, if_pos h0, if_pos (.inl h1)]
theorem runQ_rdy {y : Dv} {out w : List Int} {j : Nat} (h : j < w.length) (h0 : stepE y (w.getD j 0) = 0) (h1 : (stepX y (w.getD j 0)).rdy = false) (h2 : j + 1 < w.length) : runQ y out (w.drop j) = (stepX y (w.getD j 0), [], 14) := by
  rw [drop_at h, runQ, if_pos h0, if_pos (.inr ⟨h1, by intro e; have := congrArg List.length e; simp at this; omega⟩)]
theorem runQ_go {y : Dv} {out w : List Int} {j : Nat} (h : j < w.length) (h0 : stepE y (w.getD j 0) = 0) (h1 : ¬ stepO y (w.getD j 0) < 0) (h2 : (stepX y (w.getD j 0)).rdy = true ∨ ¬ j + 1 < w.length) : runQ y out (w.drop j) = runQ (stepX y (w.getD j 0)) (out ++ [stepO y (w.getD j 0)]) (w.drop (j + 1)) := by
  rw [drop_at h, runQ, if_pos h0, if_neg]
  rintro (h3 | ⟨h3, h4⟩)
  · exact h1 h3
  · rcases h2 with h2 | h2
    · rw [h2] at h3; cases h3
    · exact h4 (List.drop_eq_nil_of_le (by omega))
noncomputable def qrE (x : Dv) (w : List Int) : Int := if validD x = 0 then (if checkE x.I w = 0 then (if resetE x = 0 then (runQ (resetX x) [] w).2.2 else resetE x) else checkE x.I w) else validD x
noncomputable def qrX (x : Dv) (w : List Int) : Dv := if validD x = 0 then (if checkE x.I w = 0 then (if resetE x = 0 then (runQ (resetX x) [] w).1 else x) else x) else x
noncomputable def qrO (x : Dv) (w : List Int) : List Int := if validD x = 0 then (if checkE x.I w = 0 then (if resetE x = 0 then (runQ (resetX x) [] w).2.1 else []) else []) else []
theorem qr_1 {x : Dv} {w : List Int} (h : ¬ validD x = 0) : qrE x w = validD x ∧ qrX x w = x ∧ qrO x w = [] := ⟨if_neg h, if_neg h, if_neg h⟩
theorem qr_2 {x : Dv} {w : List Int} (h : validD x = 0) (h1 : ¬ checkE x.I w = 0) : qrE x w = checkE x.I w ∧ qrX x w = x ∧ qrO x w = [] := by
  unfold qrE qrX qrO; rw [if_pos h, if_pos h, if_pos h, if_neg h1, if_neg h1, if_neg h1]; exact ⟨rfl, rfl, rfl⟩
theorem qr_3 {x : Dv} {w : List Int} (h : validD x = 0) (h1 : checkE x.I w = 0) (h2 : ¬ resetE x = 0) : qrE x w = resetE x ∧ qrX x w = x ∧ qrO x w = [] := by
  unfold qrE qrX qrO; rw [if_pos h, if_pos h, if_pos h, if_pos h1, if_pos h1, if_pos h1, if_neg h2, if_neg h2, if_neg h2]; exact ⟨rfl, rfl, rfl⟩
theorem qr_4 {x : Dv} {w : List Int} (h : validD x = 0) (h1 : checkE x.I w = 0) (h2 : resetE x = 0) : qrE x w = (runQ (resetX x) [] w).2.2 ∧ qrX x w = (runQ (resetX x) [] w).1 ∧ qrO x w = (runQ (resetX x) [] w).2.1 := by
  unfold qrE qrX qrO; rw [if_pos h, if_pos h, if_pos h, if_pos h1, if_pos h1, if_pos h1, if_pos h2, if_pos h2, if_pos h2]; exact ⟨rfl, rfl, rfl⟩
/-- the parts of a device that no call writes -/
structure Same3 (x y : Dv) : Prop where
  nx : y.nx = x.nx
  out : y.out = x.out
  step : y.step = x.step
theorem RdD.same {w : World} {A B C : Option Addr} {x y : Dv} (h : RdD w A B C x) (hs : Same3 x y) : RdD w A B C y := ⟨by rw [hs.nx]; exact h.nx, by rw [hs.out]; exact h.out, by rw [hs.step]; exact h.step⟩
theorem Same3.stepX {x y : Dv} (h : Same3 x y) (a : Int) : Same3 x (stepX y a) := by
  unfold Go.Proofs.Ytpoppadihbgbgaa.stepX
  split
  · exact ⟨h.nx, h.out, h.step⟩
  · exact h
theorem Same3.resetX (x : Dv) : Same3 x (resetX x) := by
  unfold Go.Proofs.Ytpoppadihbgbgaa.resetX
  split
  · exact ⟨rfl, rfl, rfl⟩
  · exact ⟨rfl, rfl, rfl⟩
theorem step_ok {y : Dv} {a : Int} (h : stepE y a = 0) : y.rdy = true ∧ outB a (y.I - 1) = false ∧ cntB (nextS y a) = true := by
  unfold stepE at h
  cases h1 : y.rdy with
  | false => rw [if_pos h1] at h; omega
  | true =>
    rw [if_neg (by rw [h1]; simp)] at h
    cases h2 : outB a (y.I - 1) with
    | true => rw [if_pos h2] at h; omega
    | false =>
      rw [if_neg (by rw [h2]; simp)] at h
      cases h3 : cntB (nextS y a) with
      | false => rw [if_pos h3] at h; omega
      | true => exact ⟨rfl, rfl, rfl⟩
theorem Pre.stepX {y : Dv} (h : Pre y) (a : Int) : Pre (stepX y a) := by
  by_cases h0 : stepE y a = 0
  · rw [stepX_eq h0]
    obtain ⟨_, h2, h3⟩ := step_ok h0
    exact ⟨h.ok.moved h2 h3, (seedD_lt y).1, (seedD_lt y).2⟩
  · rw [stepX_ne h0]; exact h
theorem resetX_eq {x : Dv} (h : resetE x = 0) : Go.Proofs.Ytpoppadihbgbgaa.resetX x = nextR x ∧ cntB (nextR x) = true := by
  unfold resetE at h
  split at h
  · rename_i hc; exact ⟨if_pos hc, hc⟩
  · omega
theorem Pre.resetX {x : Dv} (h : Pre x) : Pre (resetX x) := by
  by_cases h0 : resetE x = 0
  · rw [(resetX_eq h0).1]
    exact ⟨h.ok.nextR (resetX_eq h0).2, h.s0, h.s1⟩
  · rw [resetX_ne h0]; exact h
/-- what a query returns -/
def DevQ (y : Dv) (os : List Int) (v : Value) (w : World) (r : Ending) (w' : World) : Prop := (∃ A c B d C e F f, r = .returned (.tuple #[(Value.agg #[Value.int IntKind.i64 (Dv.I y), Value.int IntKind.i64 (Dv.S y), Value.slice A (Dv.nx y).length c, Value.slice B (Dv.out y).length d, Value.int IntKind.i64 (Dv.st y), Value.bool (Dv.rdy y), Value.slice C (Dv.step y).length e, Value.int IntKind.i64 (Dv.rs y), Value.int IntKind.i64 (Dv.lost y), Value.int IntKind.i64 (Dv.wrong y), Value.int IntKind.i64 (Dv.crash y), Value.int IntKind.u64 (Dv.seed y), Value.int IntKind.i64 (Dv.steps y), Value.int IntKind.i64 (Dv.resets y), Value.int IntKind.i64 (Dv.time y)]), .slice F os.length f, v]) ∧ RdD w' A B C y ∧ Rd w' F os) ∧ Below w.heap.size w w'
/-- what holds in a query's loop -/
structure QI (w2 wr : World) (x y : Dv) (ws acc : List Int) (A : Option Addr) (c : Nat) (B : Option Addr) (d : Nat) (C : Option Addr) (e : Nat) (G : Option Addr) (g : Nat) : Prop where
  run : runQ y acc (ws.drop acc.length) = runQ (resetX x) [] ws
  pre : Pre y
  same : Same3 x y
  row : RowD wr w2.heap.size 77 y A c B d C e
  own : wr.ownsRow (w2.heap.size + 1) 3 1 (.slice G acc.length g) acc.length (acc.map (.int .i64))
  bel : Below w2.heap.size w2 wr
theorem qr_fin {x Y : Dv} {ws O : List Int} {E : Int} (h : qrE x ws = (runQ (resetX x) [] ws).2.2 ∧ qrX x ws = (runQ (resetX x) [] ws).1 ∧ qrO x ws = (runQ (resetX x) [] ws).2.1) (hf : runQ (resetX x) [] ws = (Y, O, E)) : qrE x ws = E ∧ qrX x ws = Y ∧ qrO x ws = O := by
  rw [hf] at h; exact h
theorem check_zero {k : Int} {ws : List Int} (h : checkE k ws = 0) : ws.length ≤ 1024 := by
  unfold checkE at h
  split at h
  · omega
  · split at h
    · omega
    · omega
theorem row_up {w w' : World} {k : Nat} (h : w.grownBy w' (some k)) : ∀ g, k + 1 ≤ g → g < w.heap.size → w'.heap[g]? = w.heap[g]? := fun g h1 h2 => h.block g h2 (by intro e; cases e; omega)
theorem below_k {w w' : World} {k : Nat} (h : w.grownBy w' (some k)) (hk : k < w.heap.size) : Below k w w' := ⟨h.os, h.tape, h.output, h.size, fun b hb => h.block b (by omega) (by intro e; cases e; omega)⟩
set_option maxRecDepth 100000 in
set_option maxHeartbeats 8000000 in
theorem Query_p (x : Dv) (ws : List Int) (A B C F : Option Addr) (c d e f : Nat) (w : World) (h : RdD w A B C x) (hw : Rd w F ws) (s0 : 0 ≤ x.seed) (s1 : x.seed < 18446744073709551616) :
    Calls Try.prog 17 #[(Value.agg #[Value.int IntKind.i64 (Dv.I x), Value.int IntKind.i64 (Dv.S x), Value.slice A (Dv.nx x).length c, Value.slice B (Dv.out x).length d, Value.int IntKind.i64 (Dv.st x), Value.bool (Dv.rdy x), Value.slice C (Dv.step x).length e, Value.int IntKind.i64 (Dv.rs x), Value.int IntKind.i64 (Dv.lost x), Value.int IntKind.i64 (Dv.wrong x), Value.int IntKind.i64 (Dv.crash x), Value.int IntKind.u64 (Dv.seed x), Value.int IntKind.i64 (Dv.steps x), Value.int IntKind.i64 (Dv.resets x), Value.int IntKind.i64 (Dv.time x)]), .slice F ws.length f] w (DevQ (qrX x ws) (qrO x ws) (.int .i64 (qrE x ws)) w) := by
  have HM := Lib.hid h
  have HW := Lib.hid hw
  clear h hw
  go_enter Try.func17, Try.ntmps17
  go_wp2_with fail
  obtain ⟨z, hz⟩ : ∃ z : Array Value, z = #[Value.int IntKind.i64 0, Value.int IntKind.i64 0, Value.slice none 0 0, Value.slice none 0 0,
          Value.int IntKind.i64 0, Value.bool false, Value.slice none 0 0, Value.int IntKind.i64 0,
          Value.int IntKind.i64 0, Value.int IntKind.i64 0, Value.int IntKind.i64 0, Value.int IntKind.u64 0,
          Value.int IntKind.i64 0, Value.int IntKind.i64 0, Value.int IntKind.i64 0] := ⟨_, rfl⟩
  rw [← hz]
  have hzs : z.size = 15 := by rw [hz]; rfl
  clear hz
  obtain ⟨w0, hw0⟩ : ∃ w0, w0 = (w.alloc (.cells (#[Value.int IntKind.i64 (Dv.I x), Value.int IntKind.i64 (Dv.S x), Value.slice A (Dv.nx x).length c, Value.slice B (Dv.out x).length d, Value.int IntKind.i64 (Dv.st x), Value.bool (Dv.rdy x), Value.slice C (Dv.step x).length e, Value.int IntKind.i64 (Dv.rs x), Value.int IntKind.i64 (Dv.lost x), Value.int IntKind.i64 (Dv.wrong x), Value.int IntKind.i64 (Dv.crash x), Value.int IntKind.u64 (Dv.seed x), Value.int IntKind.i64 (Dv.steps x), Value.int IntKind.i64 (Dv.resets x), Value.int IntKind.i64 (Dv.time x)]) 32)).alloc (.cells z 32) := ⟨_, rfl⟩
  have HX : Hid (RowD w0 w.heap.size 32 x A c B d C e) := Lib.hid (by rw [hw0]; unfold RowD; rw [heap_alloc_old _ _ (size_new _ _), heap_alloc_new])
  have HZ : Hid (w0.heap[w.heap.size + 1]? = some (.cells z 32)) := Lib.hid (by rw [hw0, ← size_alloc w (.cells (#[Value.int IntKind.i64 (Dv.I x), Value.int IntKind.i64 (Dv.S x), Value.slice A (Dv.nx x).length c, Value.slice B (Dv.out x).length d, Value.int IntKind.i64 (Dv.st x), Value.bool (Dv.rdy x), Value.slice C (Dv.step x).length e, Value.int IntKind.i64 (Dv.rs x), Value.int IntKind.i64 (Dv.lost x), Value.int IntKind.i64 (Dv.wrong x), Value.int IntKind.i64 (Dv.crash x), Value.int IntKind.u64 (Dv.seed x), Value.int IntKind.i64 (Dv.steps x), Value.int IntKind.i64 (Dv.resets x), Value.int IntKind.i64 (Dv.time x)]) 32), heap_alloc_new])
  have hbel : Below w.heap.size w w0 := by rw [hw0]; exact ((Below.refl _ _).alloc (Nat.le_refl _) _).alloc (by rw [size_alloc]; omega) _
  have hlt : w.heap.size + 1 < w0.heap.size := by rw [hw0, size_alloc, size_alloc]; omega
  rw [← hw0]
  clear hw0
  refine (validD_p x A B C c d e w0 (HM.out.keep hbel)).mono ?_
  rintro r w1 ⟨rfl, hb⟩
  replace HX := Lib.hid (HX.out.keep (Nat.lt_of_succ_lt hlt) hb)
  replace HZ := Lib.hid ((hb.block _ hlt).trans HZ.out)
  replace hbel := below_seq hbel hb
  replace hlt := Nat.lt_of_lt_of_le hlt hb.size
  clear hb
  by_cases hv : validD x = 0
  rotate_left
  · have hb := ne0 hv
    have HE := Lib.hid (qr_1 (w := ws) hv)
    clear hv
    go_wp2_with (first | (refine wpList_load_row rfl 32 _ rfl w.heap.size rfl 32 _ (0, 0) _ HX.out (by rfl) rfl (by kernel_rfl) ?_) | (refine wpList_store_row rfl 32 _ _ rfl (w.heap.size + 1) _ rfl rfl 32 z HZ.out (by kernel_rfl) hzs (dc_one _ _ _ _ _ _ _) ?_))
    have hbz := belowRow hbel (Nat.le_succ w.heap.size) (#[Value.int IntKind.i64 (Dv.I x), Value.int IntKind.i64 (Dv.S x), Value.slice A (Dv.nx x).length c, Value.slice B (Dv.out x).length d, Value.int IntKind.i64 (Dv.st x), Value.bool (Dv.rdy x), Value.slice C (Dv.step x).length e, Value.int IntKind.i64 (Dv.rs x), Value.int IntKind.i64 (Dv.lost x), Value.int IntKind.i64 (Dv.wrong x), Value.int IntKind.i64 (Dv.crash x), Value.int IntKind.u64 (Dv.seed x), Value.int IntKind.i64 (Dv.steps x), Value.int IntKind.i64 (Dv.resets x), Value.int IntKind.i64 (Dv.time x)])
    refine ret_d3 (RowD.put HZ.out x A c B d C e) rfl rfl rfl ⟨⟨A, c, B, d, C, e, none, 0, by rw [HE.out.1, HE.out.2.1, HE.out.2.2]; rfl, ?_, ?_⟩, hbz⟩
    · rw [HE.out.2.1]
      exact HM.out.keep hbz
    · rw [HE.out.2.2]; exact RdK.nil
  have HOK := Lib.hid (okD_of hv)
  have HV := Lib.hid hv
  rw [hv]
  clear hv
  have hc0 := HX.out.box.c0
  go_wp2_with fail
  refine (check_any x.I F f ws w1 (HW.out.keep hbel)).mono ?_
  rintro r w2 ⟨rfl, hb⟩
  clear hc0
  replace HX := Lib.hid (HX.out.keep (Nat.lt_of_succ_lt hlt) hb)
  replace HZ := Lib.hid ((hb.block _ hlt).trans HZ.out)
  replace hbel := below_seq hbel hb
  replace hlt := Nat.lt_of_lt_of_le hlt hb.size
  clear hb
  by_cases hv : checkE x.I ws = 0
  rotate_left
  · have hb := ne0 hv
    have HE := Lib.hid (qr_2 HV.out hv)
    clear hv
    go_wp2_with (first | (refine wpList_load_row rfl 32 _ rfl w.heap.size rfl 32 _ (0, 0) _ HX.out (by rfl) rfl (by kernel_rfl) ?_) | (refine wpList_store_row rfl 32 _ _ rfl (w.heap.size + 1) _ rfl rfl 32 z HZ.out (by kernel_rfl) hzs (dc_one _ _ _ _ _ _ _) ?_))
    have hbz := belowRow hbel (Nat.le_succ w.heap.size) (#[Value.int IntKind.i64 (Dv.I x), Value.int IntKind.i64 (Dv.S x), Value.slice A (Dv.nx x).length c, Value.slice B (Dv.out x).length d, Value.int IntKind.i64 (Dv.st x), Value.bool (Dv.rdy x), Value.slice C (Dv.step x).length e, Value.int IntKind.i64 (Dv.rs x), Value.int IntKind.i64 (Dv.lost x), Value.int IntKind.i64 (Dv.wrong x), Value.int IntKind.i64 (Dv.crash x), Value.int IntKind.u64 (Dv.seed x), Value.int IntKind.i64 (Dv.steps x), Value.int IntKind.i64 (Dv.resets x), Value.int IntKind.i64 (Dv.time x)])
    refine ret_d3 (RowD.put HZ.out x A c B d C e) rfl rfl rfl ⟨⟨A, c, B, d, C, e, none, 0, by rw [HE.out.1, HE.out.2.1, HE.out.2.2]; rfl, ?_, ?_⟩, hbz⟩
    · rw [HE.out.2.1]
      exact HM.out.keep hbz
    · rw [HE.out.2.2]; exact RdK.nil
  have HCk := Lib.hid hv
  rw [hv]
  clear hv w1
  rename World => w1
  go_wp2_with (refine wpList_load_row rfl 32 _ rfl w.heap.size rfl 32 _ (0, 0) _ HX.out (by rfl) rfl (by kernel_rfl) ?_)
  refine (copied_ok x A B C c d e w1 (HM.out.keep hbel) HOK.out).mono ?_
  rintro r w2 ⟨⟨A2, c2, B2, d2, C2, e2, rfl, hm2⟩, hb⟩
  replace hm2 := hm2.mono (Nat.succ_le_of_lt hlt)
  replace HX := Lib.hid (HX.out.keep (Nat.lt_of_succ_lt hlt) hb)
  replace HZ := Lib.hid ((hb.block _ hlt).trans HZ.out)
  replace hbel := below_seq hbel hb
  replace hlt := Nat.lt_of_lt_of_le hlt hb.size
  clear hb
  have HM2 := Lib.hid hm2
  clear hm2
  go_wp2_with fail
  refine (reset_u x A2 B2 C2 c2 d2 e2 _ w2.heap.size (Go.heap_alloc_new w2 _) HOK.out.resets0 HOK.out.resets1 HOK.out.time0 HOK.out.time1 HOK.out.rs0 HOK.out.rs1).mono ?_
  rintro r w3 ⟨rfl, hk, hg⟩
  have hb := below_of hg rfl
  have HB3 := Lib.hid hb
  have HZ2 := HZ
  have hlt2 := hlt
  have hbel2 := hbel
  have HK := Lib.hid hk
  replace HX := Lib.hid (HX.out.keep (Nat.lt_of_succ_lt hlt) hb)
  replace HZ := Lib.hid ((hb.block _ hlt).trans HZ.out)
  replace hbel := below_seq hbel hb
  replace hlt := Nat.lt_of_lt_of_le hlt hb.size
  clear hb
  clear hk hg
  by_cases hr : resetE x = 0
  rotate_left
  · have hb := ne0 hr
    have HE := Lib.hid (qr_3 HV.out HCk.out hr)
    clear hr
    go_wp2_with (first | (refine wpList_load_row rfl 32 _ rfl w.heap.size rfl 32 _ (0, 0) _ HX.out (by rfl) rfl (by kernel_rfl) ?_) | (refine wpList_store_row rfl 32 _ _ rfl (w.heap.size + 1) _ rfl rfl 32 z HZ.out (by kernel_rfl) hzs (dc_one _ _ _ _ _ _ _) ?_))
    have hbz := belowRow hbel (Nat.le_succ w.heap.size) (#[Value.int IntKind.i64 (Dv.I x), Value.int IntKind.i64 (Dv.S x), Value.slice A (Dv.nx x).length c, Value.slice B (Dv.out x).length d, Value.int IntKind.i64 (Dv.st x), Value.bool (Dv.rdy x), Value.slice C (Dv.step x).length e, Value.int IntKind.i64 (Dv.rs x), Value.int IntKind.i64 (Dv.lost x), Value.int IntKind.i64 (Dv.wrong x), Value.int IntKind.i64 (Dv.crash x), Value.int IntKind.u64 (Dv.seed x), Value.int IntKind.i64 (Dv.steps x), Value.int IntKind.i64 (Dv.resets x), Value.int IntKind.i64 (Dv.time x)])
    refine ret_d3 (RowD.put HZ.out x A c B d C e) rfl rfl rfl ⟨⟨A, c, B, d, C, e, none, 0, by rw [HE.out.1, HE.out.2.1, HE.out.2.2]; rfl, ?_, ?_⟩, hbz⟩
    · rw [HE.out.2.1]
      exact HM.out.keep hbz
    · rw [HE.out.2.2]; exact RdK.nil
  have HR := Lib.hid hr
  have HE := Lib.hid (qr_4 HV.out HCk.out hr)
  have hwl := check_zero HCk.out
  rw [hr]
  clear hr
  have HP := Lib.hid (Pre.resetX (x := x) ⟨HOK.out, s0, s1⟩)
  have hs3 := HK.out.lt
  obtain ⟨i3, hi, hz0, hz1, hz2⟩ := info_parts info3
  have hmk := run_make0 (P := Try.prog) 25 3 i3 (.int .i64 0) Try.underlying25 hi hz0 ws.length (by rw [hz2]; omega) (by omega)
  rw [hz1, Nat.mul_one] at hmk
  have HO := Lib.hid (World.ownsRow_made (e := 3) (size := 1) (base := w2.heap.size + 1) w3 (madeCells #[.int .i64 0] ws.length) ws.length hs3 (by unfold maxLen; omega) (by simp [madeCells]))
  go_wp2_with fail
  clear HX HZ hbel hlt HM
  go_loopw [11, 46] (fun l u wr => ∃ (G : Option Addr) (g : Nat) (acc : List Int) (y : Dv), u = .int .i64 (acc.length : Int) ∧ l = .slice G acc.length g ∧ acc.length ≤ ws.length ∧ Hid (QI w2 wr x y ws acc A2 c2 B2 d2 C2 e2 G g)) (fun _ u _ => ws.length - (intOf u).toNat)
  case atStart =>
    exact ⟨_, _, [], resetX x, rfl, rfl, Nat.zero_le _, Lib.hid ⟨rfl, HP.out, Same3.resetX x, HK.out.keep hs3 ((Below.refl _ _).alloc (Nat.le_refl _) _), HO.out, HB3.out.alloc (Nat.le_of_lt hs3) _⟩⟩
  case round =>
    obtain ⟨G, g, acc, y, rfl, rfl, hj, HQ⟩ := hrel
    have hwr := HQ.out.row.lt
    by_cases hjl : acc.length < ws.length
    · obtain ⟨ad, a, rfl, ha, hca⟩ := (HW.out.keep (below_seq hbel2 HQ.out.bel)).at_ hjl
      have HA := Lib.hid ha
      clear ha
      go_wp2_with fail
      refine (step_u y a A2 B2 C2 c2 d2 e2 wr w2.heap.size HQ.out.row (((HM2.out.keep HQ.out.bel).rd).same HQ.out.same) HQ.out.pre).mono ?_
      rintro r w4 ⟨rfl, hk, hg⟩
      have HK4 := Lib.hid hk
      have HO4 := Lib.hid (ownsRow_up HQ.out.own (row_up hg))
      have HB4 := Lib.hid (HQ.out.bel.trans (below_k hg hwr))
      have HZ4 := Lib.hid ((HB4.out.block _ hlt2).trans HZ2.out)
      have hs4 := HK4.out.lt
      clear hk hg hca hwr
      by_cases h0 : stepE y a = 0
      rotate_left
      · have hb := ne0 h0
        have HF := Lib.hid (qr_fin HE.out (HQ.out.run.symm.trans (runQ_err hjl (by rw [HA.out]; exact h0))))
        rw [HA.out] at HF
        clear h0
        go_wp2_with (first | (refine wpList_load_row rfl 32 _ rfl w2.heap.size rfl 77 _ (0, 0) _ HK4.out (by rfl) rfl (by kernel_rfl) ?_) | (refine wpList_store_row rfl 32 _ _ rfl (w.heap.size + 1) _ rfl rfl 32 z HZ4.out (by kernel_rfl) hzs (dc_one _ _ _ _ _ _ _) ?_))
        have hbz := belowRow (below_seq hbel2 HB4.out) (Nat.le_succ w.heap.size) (#[Value.int IntKind.i64 (Dv.I (stepX y a)), Value.int IntKind.i64 (Dv.S (stepX y a)), Value.slice A2 (Dv.nx (stepX y a)).length c2, Value.slice B2 (Dv.out (stepX y a)).length d2, Value.int IntKind.i64 (Dv.st (stepX y a)), Value.bool (Dv.rdy (stepX y a)), Value.slice C2 (Dv.step (stepX y a)).length e2, Value.int IntKind.i64 (Dv.rs (stepX y a)), Value.int IntKind.i64 (Dv.lost (stepX y a)), Value.int IntKind.i64 (Dv.wrong (stepX y a)), Value.int IntKind.i64 (Dv.crash (stepX y a)), Value.int IntKind.u64 (Dv.seed (stepX y a)), Value.int IntKind.i64 (Dv.steps (stepX y a)), Value.int IntKind.i64 (Dv.resets (stepX y a)), Value.int IntKind.i64 (Dv.time (stepX y a))])
        refine ret_d3 (RowD.put HZ4.out (stepX y a) A2 c2 B2 d2 C2 e2) rfl rfl rfl ⟨⟨A2, c2, B2, d2, C2, e2, none, 0, by rw [HF.out.1, HF.out.2.1, HF.out.2.2]; rfl, ?_, ?_⟩, hbz⟩
        · rw [HF.out.2.1]
          exact ((HM2.out.keep HB4.out).row (Nat.lt_succ_self _) _).rd.same (HQ.out.same.stepX a)
        · rw [HF.out.2.2]; exact RdK.nil
      have H0 := Lib.hid h0
      rw [h0]
      clear h0
      by_cases h1 : stepO y a < 0
      · have HF := Lib.hid (qr_fin HE.out (HQ.out.run.symm.trans (runQ_neg hjl (by rw [HA.out]; exact H0.out) (by rw [HA.out]; exact h1))))
        rw [HA.out] at HF
        go_wp2_with (first | (refine wpList_load_row rfl 32 _ rfl w2.heap.size rfl 77 _ (0, 0) _ HK4.out (by rfl) rfl (by kernel_rfl) ?_) | (refine wpList_store_row rfl 32 _ _ rfl (w.heap.size + 1) _ rfl rfl 32 z HZ4.out (by kernel_rfl) hzs (dc_one _ _ _ _ _ _ _) ?_))
        have hbz := belowRow (below_seq hbel2 HB4.out) (Nat.le_succ w.heap.size) (#[Value.int IntKind.i64 (Dv.I (stepX y a)), Value.int IntKind.i64 (Dv.S (stepX y a)), Value.slice A2 (Dv.nx (stepX y a)).length c2, Value.slice B2 (Dv.out (stepX y a)).length d2, Value.int IntKind.i64 (Dv.st (stepX y a)), Value.bool (Dv.rdy (stepX y a)), Value.slice C2 (Dv.step (stepX y a)).length e2, Value.int IntKind.i64 (Dv.rs (stepX y a)), Value.int IntKind.i64 (Dv.lost (stepX y a)), Value.int IntKind.i64 (Dv.wrong (stepX y a)), Value.int IntKind.i64 (Dv.crash (stepX y a)), Value.int IntKind.u64 (Dv.seed (stepX y a)), Value.int IntKind.i64 (Dv.steps (stepX y a)), Value.int IntKind.i64 (Dv.resets (stepX y a)), Value.int IntKind.i64 (Dv.time (stepX y a))])
        refine ret_d3 (RowD.put HZ4.out (stepX y a) A2 c2 B2 d2 C2 e2) rfl rfl rfl ⟨⟨A2, c2, B2, d2, C2, e2, none, 0, by rw [HF.out.1, HF.out.2.1, HF.out.2.2]; rfl, ?_, ?_⟩, hbz⟩
        · rw [HF.out.2.1]
          exact ((HM2.out.keep HB4.out).row (Nat.lt_succ_self _) _).rd.same (HQ.out.same.stepX a)
        · rw [HF.out.2.2]; exact RdK.nil
      have hc5 := HK4.out.box.c5
      cases hrd : (stepX y a).rdy with
      | false =>
        rw [hrd] at hc5
        by_cases h2 : acc.length + 1 < ws.length
        · have HF := Lib.hid (qr_fin HE.out (HQ.out.run.symm.trans (runQ_rdy hjl (by rw [HA.out]; exact H0.out) (by rw [HA.out]; exact hrd) h2)))
          rw [HA.out] at HF
          clear hrd
          go_wp2_with (first | (refine wpList_load_row rfl 32 _ rfl w2.heap.size rfl 77 _ (0, 0) _ HK4.out (by rfl) rfl (by kernel_rfl) ?_) | (refine wpList_store_row rfl 32 _ _ rfl (w.heap.size + 1) _ rfl rfl 32 z HZ4.out (by kernel_rfl) hzs (dc_one _ _ _ _ _ _ _) ?_))
          have hbz := belowRow (below_seq hbel2 HB4.out) (Nat.le_succ w.heap.size) (#[Value.int IntKind.i64 (Dv.I (stepX y a)), Value.int IntKind.i64 (Dv.S (stepX y a)), Value.slice A2 (Dv.nx (stepX y a)).length c2, Value.slice B2 (Dv.out (stepX y a)).length d2, Value.int IntKind.i64 (Dv.st (stepX y a)), Value.bool (Dv.rdy (stepX y a)), Value.slice C2 (Dv.step (stepX y a)).length e2, Value.int IntKind.i64 (Dv.rs (stepX y a)), Value.int IntKind.i64 (Dv.lost (stepX y a)), Value.int IntKind.i64 (Dv.wrong (stepX y a)), Value.int IntKind.i64 (Dv.crash (stepX y a)), Value.int IntKind.u64 (Dv.seed (stepX y a)), Value.int IntKind.i64 (Dv.steps (stepX y a)), Value.int IntKind.i64 (Dv.resets (stepX y a)), Value.int IntKind.i64 (Dv.time (stepX y a))])
          refine ret_d3 (RowD.put HZ4.out (stepX y a) A2 c2 B2 d2 C2 e2) rfl rfl rfl ⟨⟨A2, c2, B2, d2, C2, e2, none, 0, by rw [HF.out.1, HF.out.2.1, HF.out.2.2]; rfl, ?_, ?_⟩, hbz⟩
          · rw [HF.out.2.1]
            exact ((HM2.out.keep HB4.out).row (Nat.lt_succ_self _) _).rd.same (HQ.out.same.stepX a)
          · rw [HF.out.2.2]; exact RdK.nil
        · clear hrd
          have HF := Lib.hid (HQ.out.run.symm.trans (runQ_go hjl (by rw [HA.out]; exact H0.out) (by rw [HA.out]; exact h1) (by rw [HA.out]; exact .inr h2)))
          go_wp2_with (at_builtin; refine app1 rfl (.tmp 85) (.tmp 87) 25 3 _ _ rfl Try.underlying25 info3 rfl (by decide) rfl rfl HO4.out rfl (by omega) hs4 ?_; intro v' w5 hown' hb' hsz'; obtain ⟨G5, g5, rfl⟩ := own_slice hown'; have HB5 := Lib.hid hb'; clear hb')
          go_roundw
          case rel =>
            refine ⟨G5, g5, acc ++ [stepO y a], stepX y a, by simp, by simp, by simp; omega, Lib.hid ⟨?_, HQ.out.pre.stepX a, HQ.out.same.stepX a, HK4.out.keep (Nat.lt_succ_self _) (HB5.out _ _ (Nat.le_refl _) (Below.refl _ _)), ?_, HB5.out _ _ (Nat.le_succ _) HB4.out⟩⟩
            · rw [HF.out, HA.out, List.length_append]; rfl
            · rw [List.map_append, List.length_append]; exact hown'
          case measure => first | (simp [intOf]; done) | (simp [intOf]; omega)
      | true =>
        rw [hrd] at hc5
        have HRd := Lib.hid hrd
        clear hrd
        have HF := Lib.hid (HQ.out.run.symm.trans (runQ_go hjl (by rw [HA.out]; exact H0.out) (by rw [HA.out]; exact h1) (by rw [HA.out]; exact .inl HRd.out)))
        go_wp2_with (at_builtin; refine app1 rfl (.tmp 85) (.tmp 87) 25 3 _ _ rfl Try.underlying25 info3 rfl (by decide) rfl rfl HO4.out rfl (by omega) hs4 ?_; intro v' w5 hown' hb' hsz'; obtain ⟨G5, g5, rfl⟩ := own_slice hown'; have HB5 := Lib.hid hb'; clear hb')
        go_roundw
        case rel =>
          refine ⟨G5, g5, acc ++ [stepO y a], stepX y a, by simp, by simp, by simp; omega, Lib.hid ⟨?_, HQ.out.pre.stepX a, HQ.out.same.stepX a, HK4.out.keep (Nat.lt_succ_self _) (HB5.out _ _ (Nat.le_refl _) (Below.refl _ _)), ?_, HB5.out _ _ (Nat.le_succ _) HB4.out⟩⟩
          · rw [HF.out, HA.out, List.length_append]; rfl
          · rw [List.map_append, List.length_append]; exact hown'
        case measure => first | (simp [intOf]; done) | (simp [intOf]; omega)
    · have he : acc.length = ws.length := by omega
      have hfe : runQ y acc (ws.drop acc.length) = (y, acc, 0) := by rw [he]; exact runQ_end _ _ _
      have HF := Lib.hid (qr_fin HE.out (HQ.out.run.symm.trans hfe))
      clear hfe
      have HZ4 := Lib.hid ((HQ.out.bel.block _ hlt2).trans HZ2.out)
      clear he
      go_wp2_with (first | (refine wpList_load_row rfl 32 _ rfl w2.heap.size rfl 77 _ (0, 0) _ HQ.out.row (by rfl) rfl (by kernel_rfl) ?_) | (refine wpList_store_row rfl 32 _ _ rfl (w.heap.size + 1) _ rfl rfl 32 z HZ4.out (by kernel_rfl) hzs (dc_one _ _ _ _ _ _ _) ?_))
      have hbz := belowRow (below_seq hbel2 HQ.out.bel) (Nat.le_succ w.heap.size) (#[Value.int IntKind.i64 (Dv.I y), Value.int IntKind.i64 (Dv.S y), Value.slice A2 (Dv.nx y).length c2, Value.slice B2 (Dv.out y).length d2, Value.int IntKind.i64 (Dv.st y), Value.bool (Dv.rdy y), Value.slice C2 (Dv.step y).length e2, Value.int IntKind.i64 (Dv.rs y), Value.int IntKind.i64 (Dv.lost y), Value.int IntKind.i64 (Dv.wrong y), Value.int IntKind.i64 (Dv.crash y), Value.int IntKind.u64 (Dv.seed y), Value.int IntKind.i64 (Dv.steps y), Value.int IntKind.i64 (Dv.resets y), Value.int IntKind.i64 (Dv.time y)])
      refine ret_d3 (RowD.put HZ4.out y A2 c2 B2 d2 C2 e2) rfl rfl rfl ⟨⟨A2, c2, B2, d2, C2, e2, G, g, by rw [HF.out.1, HF.out.2.1, HF.out.2.2]; rfl, ?_, ?_⟩, hbz⟩
      · rw [HF.out.2.1]
        exact ((HM2.out.keep HQ.out.bel).row (Nat.lt_succ_self _) _).rd.same HQ.out.same
      · rw [HF.out.2.2]
        exact (own_rd (ownsRow_setRow HQ.out.own (by omega) _) (by omega)).2
end Go.Proofs.Ytpoppadihbgbgaa
