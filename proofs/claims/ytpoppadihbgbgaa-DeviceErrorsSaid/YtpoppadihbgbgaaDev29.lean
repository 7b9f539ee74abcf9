/- Machines: From, Run of the reference; made of the law. -/
import Derived.Test.YtpoppadihbgbgaaDev28
namespace Go.Proofs.Ytpoppadihbgbgaa
open Go.RowKit

def frO (k : Int) (nx out : List (List Int)) (s : Int) (ws : List Int) : List Int := if checkE k ws = 0 then outsL nx out s ws else []
def frS (k : Int) (nx : List (List Int)) (s : Int) (ws : List Int) : Int := if checkE k ws = 0 then endL nx s ws else 0
def FromP (k : Int) (nx out : List (List Int)) (s : Int) (ws : List Int) (w : World) (r : Ending) (w' : World) : Prop := (∃ G g, r = .returned (.tuple #[.slice G (frO k nx out s ws).length g, .int .i64 (frS k nx s ws), .int .i64 (checkE k ws)]) ∧ Rd w' G (frO k nx out s ws)) ∧ Below w.heap.size w w'
set_option maxRecDepth 100000 in
set_option maxHeartbeats 4000000 in
theorem from_r (k S : Nat) (s : Int) (nx out : List (List Int)) (ws : List Int) (A B F : Option Addr) (c d f : Nat) (w : World) (ha : RdM .i64 w A nx) (hb : RdM .i64 w B out) (hw : Rd w F ws) (ok : Mea.Ok k S nx out) (h1 : 0 ≤ s) (h2 : s < nx.length) :
    Calls Try.prog 27 #[.agg #[.int .i64 (k : Int), .int .i64 (S : Int), .slice A nx.length c, .slice B out.length d], .int .i64 s, .slice F ws.length f] w (FromP k nx out s ws w) := by
  have mx := ha.1
  have HA := Lib.hid ha
  have HB := Lib.hid hb
  have HW := Lib.hid hw
  have HO := Lib.hid ok
  clear ha hb hw ok
  go_enter Try.func27, Try.ntmps27
  go_wp2_with fail
  obtain ⟨w0, hw0⟩ : ∃ w0, w0 = w.alloc (.cells #[.int .i64 (k : Int), .int .i64 (S : Int), .slice A nx.length c, .slice B out.length d] 24) := ⟨_, rfl⟩
  have k0 : w0.cell? ⟨w.heap.size, 0, none⟩ = some (.int .i64 (k : Int)) := by rw [hw0]; simp
  have k1 : w0.cell? ⟨w.heap.size, 1, none⟩ = some (.int .i64 (S : Int)) := by rw [hw0]; simp
  have k2 : w0.cell? ⟨w.heap.size, 2, none⟩ = some (.slice A nx.length c) := by rw [hw0]; simp
  have k3 : w0.cell? ⟨w.heap.size, 3, none⟩ = some (.slice B out.length d) := by rw [hw0]; simp
  have hbel : Below w.heap.size w w0 := by rw [hw0]; exact (Below.refl _ _).alloc (Nat.le_refl _) _
  rw [← hw0]
  clear hw0
  refine (rvalid k S A B c d nx out w0 (HA.out.keep hbel) (HB.out.keep hbel)).mono ?_
  rintro r w1 ⟨rfl, hb⟩
  rw [HO.out.valid]
  replace k0 := keep_cell hb k0
  replace k1 := keep_cell hb k1
  replace k2 := keep_cell hb k2
  replace k3 := keep_cell hb k3
  replace hbel := below_seq hbel hb
  clear hb
  go_wp2_with fail
  refine (check_r k F f ws w1 (HW.out.keep hbel)).mono ?_
  rintro r w2 ⟨rfl, rfl⟩
  by_cases hc : checkE k ws = 0
  rotate_left
  · have hb := ne0 hc
    have HE : Hid (frO k nx out s ws = [] ∧ frS k nx s ws = 0) := Lib.hid ⟨if_neg hc, if_neg hc⟩
    clear hc
    go_wp2_with fail
    go_ret3
    exact ⟨⟨none, 0, by rw [HE.out.1, HE.out.2]; rfl, by rw [HE.out.1]; exact RdK.nil⟩, hbel⟩
  have HE : Hid (frO k nx out s ws = outsL nx out s ws ∧ frS k nx s ws = endL nx s ws) := Lib.hid ⟨if_pos hc, if_pos hc⟩
  have HC := Lib.hid (check_all hc)
  have HC0 := Lib.hid hc
  rw [hc]
  clear hc
  go_wp2_with fail
  refine (outs_r k S s nx out ws A B F c d f w1 (HA.out.keep hbel) (HB.out.keep hbel) (HW.out.keep hbel) HO.out h1 h2 HC.out.2.2.2 HC.out.2.2.1).mono ?_
  rintro r w3 ⟨⟨G, g, rfl, hg⟩, hb⟩
  replace hbel := below_seq hbel hb
  have HG := Lib.hid hg
  clear hg hb k0 k1 k2 k3
  go_wp2_with fail
  go_ret3
  exact ⟨⟨G, g, by rw [HE.out.1, HE.out.2, HC0.out]; rfl, by rw [HE.out.1]; exact HG.out⟩, hbel⟩
def RunP (k : Int) (nx out : List (List Int)) (s : Int) (ws : List Int) (w : World) (r : Ending) (w' : World) : Prop := (∃ G g, r = .returned (.tuple #[.slice G (frO k nx out s ws).length g, .int .i64 (checkE k ws)]) ∧ Rd w' G (frO k nx out s ws)) ∧ Below w.heap.size w w'
set_option maxRecDepth 100000 in
set_option maxHeartbeats 4000000 in
theorem run_r (k S : Nat) (nx out : List (List Int)) (ws : List Int) (A B F : Option Addr) (c d f : Nat) (w : World) (ha : RdM .i64 w A nx) (hb : RdM .i64 w B out) (hw : Rd w F ws) (ok : Mea.Ok k S nx out) :
    Calls Try.prog 26 #[.agg #[.int .i64 (k : Int), .int .i64 (S : Int), .slice A nx.length c, .slice B out.length d], .slice F ws.length f] w (RunP k nx out S ws w) := by
  have HA := Lib.hid ha
  have HB := Lib.hid hb
  have HW := Lib.hid hw
  have HO := Lib.hid ok
  clear ha hb hw ok
  go_enter Try.func26, Try.ntmps26
  go_wp2_with fail
  have hbel : Below w.heap.size w (w.alloc (.cells #[.int .i64 (k : Int), .int .i64 (S : Int), .slice A nx.length c, .slice B out.length d] 24)) := (Below.refl _ _).alloc (Nat.le_refl _) _
  refine (from_r k S S nx out ws A B F c d f _ (HA.out.keep hbel) (HB.out.keep hbel) (HW.out.keep hbel) HO.out (by omega) (by have := HO.out.s; omega)).mono ?_
  rintro r w3 ⟨⟨G, g, rfl, hg⟩, hb⟩
  replace hbel := below_seq hbel hb
  have HG := Lib.hid hg
  clear hg hb
  go_wp2_with fail
  go_ret2
  exact ⟨⟨G, g, rfl, HG.out⟩, hbel⟩
/-- what made returns -/
def MadeP (x : Dv) (w : World) (r : Ending) (w' : World) : Prop := (∃ y b A c B d C e, r = .returned (.tuple #[(Value.agg #[Value.int IntKind.i64 (Dv.I y), Value.int IntKind.i64 (Dv.S y), Value.slice A (Dv.nx y).length c, Value.slice B (Dv.out y).length d, Value.int IntKind.i64 (Dv.st y), Value.bool (Dv.rdy y), Value.slice C (Dv.step y).length e, Value.int IntKind.i64 (Dv.rs y), Value.int IntKind.i64 (Dv.lost y), Value.int IntKind.i64 (Dv.wrong y), Value.int IntKind.i64 (Dv.crash y), Value.int IntKind.u64 (Dv.seed y), Value.int IntKind.i64 (Dv.steps y), Value.int IntKind.i64 (Dv.resets y), Value.int IntKind.i64 (Dv.time y)]), .bool b]) ∧ RdD w' A B C y ∧ (b = true → y = newX x ∧ validD (newX x) = 0)) ∧ Below w.heap.size w w'
theorem made_b (x : Dv) : (neE x == 0) = true → neX x = newX x ∧ validD (newX x) = 0 := by
  intro h
  have h1 : validD (newX x) = 0 := by simpa [neE] using h
  exact ⟨if_pos h1, h1⟩
set_option maxRecDepth 100000 in
set_option maxHeartbeats 4000000 in
theorem made_t (x : Dv) (A B C : Option Addr) (c d e : Nat) (w : World) (h : RdD w A B C x) :
    Calls Try.prog 15 #[.agg #[.int .i64 x.I, .int .i64 x.S, .slice A x.nx.length c, .slice B x.out.length d], .agg #[.slice C x.step.length e, .int .i64 x.rs], .agg #[.int .i64 x.lost, .int .i64 x.wrong, .int .i64 x.crash], .int .u64 x.seed] w (MadeP x w) := by
  have HM := Lib.hid h
  clear h
  go_enter Try.func15, Try.ntmps15
  go_wp2_with fail
  generalize hw3 : World.alloc (World.alloc (World.alloc w _) _) (Obj.cells #[Value.int IntKind.i64 x.lost, _, _] _) = w3
  have e3 : w3.heap.size = w.heap.size + 1 + 1 + 1 := by rw [← hw3, size_alloc, size_alloc, size_alloc]
  have hb3 : Below w.heap.size w w3 := by rw [← hw3]; exact (((Below.refl _ _).alloc (Nat.le_refl _) _).alloc (by rw [size_alloc]; omega) _).alloc (by rw [size_alloc, size_alloc]; omega) _
  have a0 : w3.cell? ⟨w.heap.size, 0, none⟩ = some (.int .i64 x.I) := by rw [← hw3]; clear hw3; go_simp
  have a1 : w3.cell? ⟨w.heap.size, 1, none⟩ = some (.int .i64 x.S) := by rw [← hw3]; clear hw3; go_simp
  have a2 : w3.cell? ⟨w.heap.size, 2, none⟩ = some (.slice A x.nx.length c) := by rw [← hw3]; clear hw3; go_simp
  have a3 : w3.cell? ⟨w.heap.size, 3, none⟩ = some (.slice B x.out.length d) := by rw [← hw3]; clear hw3; go_simp
  have l0 : w3.cell? ⟨w.heap.size + 1, 0, none⟩ = some (.slice C x.step.length e) := by rw [← hw3]; clear hw3; go_simp
  have l1 : w3.cell? ⟨w.heap.size + 1, 1, none⟩ = some (.int .i64 x.rs) := by rw [← hw3]; clear hw3; go_simp
  have f0 : w3.cell? ⟨w.heap.size + 1 + 1, 0, none⟩ = some (.int .i64 x.lost) := by rw [← hw3]; clear hw3; go_simp
  have f1 : w3.cell? ⟨w.heap.size + 1 + 1, 1, none⟩ = some (.int .i64 x.wrong) := by rw [← hw3]; clear hw3; go_simp
  have f2 : w3.cell? ⟨w.heap.size + 1 + 1, 2, none⟩ = some (.int .i64 x.crash) := by rw [← hw3]; clear hw3; go_simp
  clear hw3
  generalize hw0 : World.alloc w3 _ = w0
  have hb0 : Below w3.heap.size w3 w0 := by rw [← hw0]; exact (Below.refl _ _).alloc (Nat.le_refl _) _
  have HZ : Hid (RowD w0 (w.heap.size + 1 + 1 + 1) 32 zeroD none 0 none 0 none 0) := Lib.hid (by rw [← hw0, ← e3]; exact Go.heap_alloc_new _ _)
  have hbel := below_seq hb3 hb0
  have hlt : w.heap.size + 1 + 1 + 1 < w0.heap.size := by rw [← hw0, size_alloc]; omega
  clear hw0 hb3
  refine (great_b x.I x.S x.rs x.nx x.out x.step A B C c d e w0 (HM.out.keep hbel).nx (HM.out.keep hbel).out (HM.out.keep hbel).step).mono ?_
  rintro r w1 ⟨⟨b, rfl⟩, hb⟩
  have hb1 := below_seq hb0 hb
  replace HZ := Lib.hid (HZ.out.keep hlt hb)
  replace hbel := below_seq hbel hb
  replace hlt := size_lt hlt hb
  clear hb hb0
  cases b with
  | true =>
    clear a0 a1 a2 a3 l0 l1 f0 f1 f2
    go_upto_region 2 with fail
    go_wp2_with (refine wpList_store_row rfl 32 _ _ rfl (w.heap.size + 1 + 1 + 1) _ rfl rfl 32 _ HZ.out (by kernel_rfl) rfl (dc_one zeroD _ _ _ _ _ _) ?_)
    have hbz := belowRow hbel (show w.heap.size ≤ w.heap.size + 1 + 1 + 1 by omega) (#[Value.int IntKind.i64 (Dv.I zeroD), Value.int IntKind.i64 (Dv.S zeroD), Value.slice none (Dv.nx zeroD).length 0, Value.slice none (Dv.out zeroD).length 0, Value.int IntKind.i64 (Dv.st zeroD), Value.bool (Dv.rdy zeroD), Value.slice none (Dv.step zeroD).length 0, Value.int IntKind.i64 (Dv.rs zeroD), Value.int IntKind.i64 (Dv.lost zeroD), Value.int IntKind.i64 (Dv.wrong zeroD), Value.int IntKind.i64 (Dv.crash zeroD), Value.int IntKind.u64 (Dv.seed zeroD), Value.int IntKind.i64 (Dv.steps zeroD), Value.int IntKind.i64 (Dv.resets zeroD), Value.int IntKind.i64 (Dv.time zeroD)])
    exact ret_d2 (RowD.put HZ.out zeroD none 0 none 0 none 0) rfl rfl rfl ⟨⟨zeroD, false, none, 0, none, 0, none, 0, rfl, RdD.zero _, fun h => by cases h⟩, hbz⟩
  | false =>
  replace a0 := keep_cell hb1 a0
  replace a1 := keep_cell hb1 a1
  replace a2 := keep_cell hb1 a2
  replace a3 := keep_cell hb1 a3
  replace l0 := keep_cell hb1 l0
  replace l1 := keep_cell hb1 l1
  replace f0 := keep_cell hb1 f0
  replace f1 := keep_cell hb1 f1
  replace f2 := keep_cell hb1 f2
  clear hb1
  go_wp2_with fail
  clear a0 a1 a2 a3 l0 l1 f0 f1 f2
  refine (New_u x A B C c d e w1 (HM.out.keep hbel)).mono ?_
  rintro r w2 ⟨⟨A2, c2, B2, d2, C2, e2, rfl, hm⟩, hb⟩
  have HM2 := Lib.hid (hm.mono (show w.heap.size + 1 + 1 + 1 + 1 ≤ _ by omega))
  replace HZ := Lib.hid (HZ.out.keep hlt hb)
  replace hbel := below_seq hbel hb
  replace hlt := size_lt hlt hb
  clear hb hm
  go_upto_region 4 with fail
  generalize hwb : World.alloc _ _ = wb
  have hb : Below w2.heap.size w2 wb := by rw [← hwb]; exact (Below.refl _ _).alloc (Nat.le_refl _) _
  have HX : Hid (RowD wb w2.heap.size 32 (neX x) A2 c2 B2 d2 C2 e2) := Lib.hid (by rw [← hwb]; exact Go.heap_alloc_new _ _)
  replace HM2 := Lib.hid (HM2.out.keep hb)
  replace HZ := Lib.hid (HZ.out.keep hlt hb)
  replace hbel := below_seq hbel hb
  clear hb hwb hlt
  have HE := Lib.hid (made_b x)
  generalize hE : (neE x == 0) = bb
  rw [hE] at HE
  go_wp2_with (first | (refine wpList_load_row rfl 32 _ rfl w2.heap.size rfl 32 _ (0, 0) _ HX.out Try.underlying32 rfl (by kernel_rfl) ?_) | (refine wpList_store_row rfl 32 _ _ rfl (w.heap.size + 1 + 1 + 1) _ rfl rfl 32 _ HZ.out (by kernel_rfl) rfl (dc_one (neX x) _ _ _ _ _ _) ?_))
  have hbz := belowRow hbel (show w.heap.size ≤ w.heap.size + 1 + 1 + 1 by omega) (#[Value.int IntKind.i64 (Dv.I (neX x)), Value.int IntKind.i64 (Dv.S (neX x)), Value.slice A2 (Dv.nx (neX x)).length c2, Value.slice B2 (Dv.out (neX x)).length d2, Value.int IntKind.i64 (Dv.st (neX x)), Value.bool (Dv.rdy (neX x)), Value.slice C2 (Dv.step (neX x)).length e2, Value.int IntKind.i64 (Dv.rs (neX x)), Value.int IntKind.i64 (Dv.lost (neX x)), Value.int IntKind.i64 (Dv.wrong (neX x)), Value.int IntKind.i64 (Dv.crash (neX x)), Value.int IntKind.u64 (Dv.seed (neX x)), Value.int IntKind.i64 (Dv.steps (neX x)), Value.int IntKind.i64 (Dv.resets (neX x)), Value.int IntKind.i64 (Dv.time (neX x))])
  exact ret_d2 (RowD.put HZ.out (neX x) A2 c2 B2 d2 C2 e2) rfl rfl rfl ⟨⟨neX x, bb, A2, c2, B2, d2, C2, e2, by first | rfl | (rw [← hE]; rfl), (HM2.out.row (Nat.lt_succ_self _) _).rd, HE.out⟩, hbz⟩
end Go.Proofs.Ytpoppadihbgbgaa
