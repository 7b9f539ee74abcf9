/- The walk of the statement RegisterBack. -/
import Derived.Test.YtaoebjabdejpoaaAwk
import Derived.Test.YtaoebjabdejpoaaLawS
import Derived.Test.YtaoebjabdejpoaaLawD
namespace Go.Proofs.Ytaoebjabdejpoaa
open Go.RowKit

theorem canon_wf {ws : Rg.Dw} (h : ws.length ≤ 2000) : WfW (Rg.canon ws ws.length) := by
  intro j hj
  rw [Rg.canon_len] at hj
  rw [Rg.can_get hj]
  have h1 := Rg.num_le ws j
  have h2 := Rg.vals_len ws (j + 1)
  exact wf_small (n := Rg.numA ws j) (by omega) (by omega)
theorem Rg.sym_none {ws : Rg.Dw} {a d x : Int} {L : List Int} (h : Rg.symE ws a d = (x, L)) (h0 : x ≠ 0) : L = [] := by
  unfold Rg.symE at h
  split at h
  · injection h with _ h; exact h.symm
  split at h
  · injection h with _ h; exact h.symm
  split at h
  · injection h with _ h; exact h.symm
  · injection h with h1 _; exact absurd h1.symm h0
theorem canP_e {w : World} {ws cs : Rg.Dw} {A : Option Addr} {c : Nat} (hE : cs = Rg.canon ws ws.length) (hR : Rd2 w A ws) (hwf : WfW ws) (hlen : ws.length ≤ 2000) :
    Calls Try.prog 19 #[.slice A ws.length c] w fun r w' => (∃ A c, r = .returned (.slice A cs.length c) ∧ Rd2 w' A cs) ∧ Below w.heap.size w w' := by
  have h := canP_t ws A c w hR hwf hlen
  rw [← hE] at h; exact h
set_option maxRecDepth 100000 in
set_option maxHeartbeats 8000000 in
theorem registerBack_core (C : Option Addr) (e : Nat) (ws : Rg.Dw) (a d : Int) (w : World) (hW : Rd2 w C ws) (hwf : WfW ws) :
    Calls Try.prog 7 #[.slice C ws.length e, .agg #[.int .i64 a, .int .i64 d]] w fun e w' => e = .returned (.bool true) ∧ Below w.heap.size w w' := by
  have ml := hW.1
  have HF := Lib.hid hwf
  clear hwf
  go_enter Try.func7, Try.ntmps7
  go_upto_region 1 with fail
  generalize hwb : World.alloc _ _ = w0
  have BX : Hid (Blk w0 w.heap.size 38 #[.int .i64 a, .int .i64 d]) := Lib.hid (by rw [← hwb]; exact Blk.new _ _ _)
  have HBL : Hid (Below w.heap.size w w0) := Lib.hid (by rw [← hwb]; exact (Below.refl _ _).alloc (Nat.le_refl _) _)
  clear hwb
  have HW := Lib.hid (hW.keep HBL.out)
  clear hW
  by_cases hl : (1100 : Int) < (ws.length : Int)
  · skip
    go_wp2_with fail
    refine (awake_p _).mono ?_
    rintro r wz ⟨rfl, hb⟩
    replace HBL := Lib.hid (below_seq HBL.out hb)
    go_wp2_with fail
    go_ret
    exact ⟨rfl, HBL.out⟩
  have hl2 : ws.length ≤ 2000 := by omega
  obtain ⟨cs, hcs⟩ : ∃ cs, cs = Rg.canon ws ws.length := ⟨_, rfl⟩
  have hcl : cs.length = ws.length := by rw [hcs, Rg.canon_len]
  have HCC : Hid (Rg.canon cs cs.length = cs) := Lib.hid (by rw [hcl, hcs]; exact Rg.canon_can ws ws.length)
  have HFC : Hid (WfW cs) := Lib.hid (by rw [hcs]; exact canon_wf hl2)
  obtain ⟨x, L, hE⟩ : ∃ x L, Rg.symE ws a d = (x, L) := ⟨_, _, rfl⟩
  have HE := Lib.hid hE
  have HE2 : Hid (Rg.symE cs a d = (x, L)) := Lib.hid (by rw [hcs, Rg.sym_can]; exact hE)
  have HBK : Hid (x = 0 → Rg.datX L a d = (0, cs)) := Lib.hid (fun h0 => by
    have h1 := Rg.symOk_of (w := ws) (a := a) (d := d) (by rw [hE]; exact h0)
    have h2 := h1.res
    rw [hE] at h2
    injection h2 with _ h2
    rw [h2, hcs]; exact h1.back)
  have HNO : Hid (x ≠ 0 → L = []) := Lib.hid (fun h0 => Rg.sym_none hE h0)
  have HCS := Lib.hid hcs
  clear hE hcs
  go_wp2_with fail
  refine (canP_e HCS.out HW.out HF.out hl2).mono ?_
  rintro r w1 ⟨⟨U, cu, rfl, hU⟩, hb⟩
  have HU := Lib.hid hU
  replace BX := Lib.hid (BX.out.keep hb)
  replace HW := Lib.hid (HW.out.keep hb)
  replace HBL := Lib.hid (below_seq HBL.out hb)
  clear hb hU
  have hlc : cs.length ≤ 2000 := by omega
  have hci : ((cs.length : Int) != (ws.length : Int)) = false := by rw [hcl]; simp
  have hcn : (cs.length != ws.length) = false := by rw [hcl]; simp
  have HCL := Lib.hid hcl
  clear hcl
  go_wp2_with fail
  refine (canP_e HCC.out.symm HU.out HFC.out hlc).mono ?_
  rintro r w2 ⟨⟨V, cv, rfl, hV⟩, hb⟩
  have HV := Lib.hid hV
  replace BX := Lib.hid (BX.out.keep hb)
  replace HW := Lib.hid (HW.out.keep hb)
  replace HU := Lib.hid (HU.out.keep hb)
  replace HBL := Lib.hid (below_seq HBL.out hb)
  clear hb hV
  go_wp2_with fail
  refine (data_t HV.out HU.out).mono ?_
  rintro r w3 ⟨rfl, hb⟩
  replace BX := Lib.hid (BX.out.keep hb)
  replace HW := Lib.hid (HW.out.keep hb)
  replace HU := Lib.hid (HU.out.keep hb)
  replace HV := Lib.hid (HV.out.keep hb)
  replace HBL := Lib.hid (below_seq HBL.out hb)
  clear hb
  clear HV
  clear hci hcn
  have n0 : w3.cell? ⟨w.heap.size, 0, none⟩ = some (.int .i64 a) := BX.out.cell 0
  have n1 : w3.cell? ⟨w.heap.size, 1, none⟩ = some (.int .i64 d) := BX.out.cell 1
  go_wp2_with fail
  refine (symP_e HE.out HW.out HF.out hl2).mono ?_
  rintro r w4 ⟨⟨X, cx, rfl, hX⟩, hb⟩
  have HX := Lib.hid hX
  replace BX := Lib.hid (BX.out.keep hb)
  replace HW := Lib.hid (HW.out.keep hb)
  replace HU := Lib.hid (HU.out.keep hb)
  replace HBL := Lib.hid (below_seq HBL.out hb)
  clear hb hX
  clear n0 n1
  have n0 : w4.cell? ⟨w.heap.size, 0, none⟩ = some (.int .i64 a) := BX.out.cell 0
  have n1 : w4.cell? ⟨w.heap.size, 1, none⟩ = some (.int .i64 d) := BX.out.cell 1
  go_wp2_with fail
  refine (symP_e HE2.out HU.out HFC.out hlc).mono ?_
  rintro r w5 ⟨⟨Y, cy, rfl, hY⟩, hb⟩
  have HY := Lib.hid hY
  replace BX := Lib.hid (BX.out.keep hb)
  replace HW := Lib.hid (HW.out.keep hb)
  replace HU := Lib.hid (HU.out.keep hb)
  replace HX := Lib.hid (HX.out.keep hb)
  replace HBL := Lib.hid (below_seq HBL.out hb)
  clear hb hY
  clear n0 n1
  have e1 : (x != x) = false := by simp
  have e1' : decide (x = x) = true := decide_eq_true rfl
  have e1'' : (x == x) = true := beq_self_eq_true x
  go_wp2_with fail
  refine (ints_t HX.out HY.out).mono ?_
  rintro r w6 ⟨rfl, hb⟩
  replace BX := Lib.hid (BX.out.keep hb)
  replace HW := Lib.hid (HW.out.keep hb)
  replace HU := Lib.hid (HU.out.keep hb)
  replace HX := Lib.hid (HX.out.keep hb)
  replace HY := Lib.hid (HY.out.keep hb)
  replace HBL := Lib.hid (below_seq HBL.out hb)
  clear hb
  clear HY HW
  clear e1 e1' e1''
  by_cases hx : x = 0
  rotate_left
  · obtain rfl := HNO.out hx
    have e2 : (x != 0) = true := bne_iff_ne.2 hx
    have e3 : decide (x = 0) = false := decide_eq_false hx
    have e4 : (x == 0) = false := beq_eq_false_iff_ne.2 hx
    clear hx
    go_wp2_with fail
    refine (awake_p _).mono ?_
    rintro r wz ⟨rfl, hb⟩
    replace HBL := Lib.hid (below_seq HBL.out hb)
    go_wp2_with fail
    go_ret
    exact ⟨rfl, HBL.out⟩
  have HDX := Lib.hid (HBK.out hx)
  subst hx
  have n0 : w6.cell? ⟨w.heap.size, 0, none⟩ = some (.int .i64 a) := BX.out.cell 0
  have n1 : w6.cell? ⟨w.heap.size, 1, none⟩ = some (.int .i64 d) := BX.out.cell 1
  go_wp2_with fail
  refine (datP_e HDX.out HX.out).mono ?_
  rintro r w7 ⟨⟨Z, cz, rfl, hZ⟩, hb⟩
  have HZ := Lib.hid hZ
  replace BX := Lib.hid (BX.out.keep hb)
  replace HU := Lib.hid (HU.out.keep hb)
  replace HX := Lib.hid (HX.out.keep hb)
  replace HBL := Lib.hid (below_seq HBL.out hb)
  clear hb hZ
  clear n0 n1
  go_wp2_with fail
  refine (data_t HZ.out HU.out).mono ?_
  rintro r w8 ⟨rfl, hb⟩
  replace BX := Lib.hid (BX.out.keep hb)
  replace HU := Lib.hid (HU.out.keep hb)
  replace HX := Lib.hid (HX.out.keep hb)
  replace HZ := Lib.hid (HZ.out.keep hb)
  replace HBL := Lib.hid (below_seq HBL.out hb)
  clear hb
  clear HZ HU HX BX
  go_wp2_with fail
  refine (awake_p _).mono ?_
  rintro r w9 ⟨rfl, hb⟩
  replace HBL := Lib.hid (below_seq HBL.out hb)
  clear hb
  go_wp2_with fail
  go_ret
  exact ⟨rfl, HBL.out⟩
theorem registerBack_walk (w : World) (A0 : Option Addr) (c0 : Nat) (x0 : Rg.Dw) (a1 a2 : Int) (r0 : Rd2 w A0 x0) (w0 : WfW x0) (_ : (Lit.int .i64 a1).wf = true) (_ : (Lit.int .i64 a2).wf = true) :
    Calls Try.prog 7 #[.slice A0 x0.length c0, .agg #[.int .i64 a1, .int .i64 a2]] w fun e w' => e = .returned (.bool true) ∧ Below w.heap.size w w' :=
  registerBack_core A0 c0 x0 a1 a2 w r0 w0
end Go.Proofs.Ytaoebjabdejpoaa
