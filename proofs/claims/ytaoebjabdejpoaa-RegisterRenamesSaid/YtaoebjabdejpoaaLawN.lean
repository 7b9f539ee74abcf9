/- The walk of the statement RegisterRenames. -/
import Derived.Test.YtaoebjabdejpoaaAwk
import Derived.Test.YtaoebjabdejpoaaLawB
namespace Go.Proofs.Ytaoebjabdejpoaa
open Go.RowKit

theorem Rg.run_all {m : Rg.M} {ws : Rg.Dw} {x : Int} {L : List Int} (h : Rg.runE m ws = (x, L)) (h0 : x = 0) : L.length = ws.length := by
  unfold Rg.runE at h
  split at h
  · rename_i h2; injection h with h1 _; exact absurd (h1.trans h0) h2
  split at h
  · injection h with h1 _; omega
  split at h
  · rename_i h2; injection h with h1 _; exact absurd (h1.trans h0) h2
  · injection h with _ h; rw [← h]; exact Rg.outs_len m ws ws.length
set_option maxRecDepth 100000 in
set_option maxHeartbeats 8000000 in
theorem registerRenames_core (m : Rg.M) (A B C : Option Addr) (c d e : Nat) (ws : Rg.Dw) (w : World) (hR : RdA w A B m) (hW : Rd2 w C ws) (hwf : WfW ws) :
    Calls Try.prog 8 #[regV m A B c d, .slice C ws.length e] w fun e w' => e = .returned (.bool true) ∧ Below w.heap.size w w' := by
  have ml := hW.1
  have HF := Lib.hid hwf
  clear hwf
  go_enter Try.func8, Try.ntmps8
  go_upto_region 1 with fail
  generalize hwb : World.alloc _ _ = w0
  have BX : Hid (Blk w0 w.heap.size 25 (tc m A c B d)) := Lib.hid (by rw [← hwb]; exact Blk.new _ _ _)
  have HBL : Hid (Below w.heap.size w w0) := Lib.hid (by rw [← hwb]; exact (Below.refl _ _).alloc (Nat.le_refl _) _)
  clear hwb
  have HR := Lib.hid (hR.keep HBL.out)
  clear hR
  have HW := Lib.hid (hW.keep HBL.out)
  clear hW
  by_cases hl : (1100 : Int) < (ws.length : Int)
  · skip
    go_wp2_with fail
    refine (awake_p _).mono ?_
    rintro r wz ⟨rfl, hb⟩
    replace HBL := Lib.hid (below_seq HBL.out hb)
    go_wp2_with fail
    go_ret
    exact ⟨rfl, HBL.out⟩
  have hl2 : ws.length ≤ 2000 := by omega
  obtain ⟨cs, hcs⟩ : ∃ cs, cs = Rg.canon ws ws.length := ⟨_, rfl⟩
  obtain ⟨x, L, hE⟩ : ∃ x L, Rg.runE m ws = (x, L) := ⟨_, _, rfl⟩
  have HE := Lib.hid hE
  have HE2 : Hid (Rg.runE m cs = (x, L)) := Lib.hid (by rw [hcs, Rg.run_can]; exact hE)
  have HLN : Hid (x = 0 → L.length = ws.length) := Lib.hid (fun h0 => Rg.run_all hE h0)
  have HCS := Lib.hid hcs
  clear hE hcs
  go_wp2_with (first | (refine wpList_load_row rfl 25 _ rfl w.heap.size rfl 25 (tc m A c B d) (0, 0) _ BX.out Try.underlying25 rfl (by kernel_rfl) ?_))
  refine (runP_e HE.out HR.out HW.out).mono ?_
  rintro r w1 ⟨⟨X, cx, rfl, hX⟩, hb⟩
  have HX := Lib.hid hX
  replace BX := Lib.hid (BX.out.keep hb)
  replace HR := Lib.hid (HR.out.keep hb)
  replace HW := Lib.hid (HW.out.keep hb)
  replace HBL := Lib.hid (below_seq HBL.out hb)
  clear hb hX
  go_upto_region 4 with fail
  refine wp_region_held_drew (S := fun wx => Below w1.heap.size w1 wx) (by kernel_rfl) ((Below.refl _ _).drew) (fun hS => ?_)
  refine takeH (i := 0) (d := some 20) (v := .agg #[.int .i64 m.I, .int .i64 m.S, .slice A m.rg.length c, .slice B m.tr.length d]) rfl rfl (by kernel_rfl) (by kernel_rfl) (by kernel_rfl) (fun _ _ _ h => h) (yieldsIf_load_any (by rfl) 25 _ rfl ⟨w.heap.size, 0, none⟩ rfl [.int .i64 m.I, .int .i64 m.S, .slice A m.rg.length c, .slice B m.tr.length d] _ (fun wx hSx => ((Blk.keep BX.out hSx).part 0 _ rfl)) Try.underlying25 rfl (by kernel_rfl)) hS ?_
  simp only [Act.put, List.setIfInBounds_toArray, List.set_cons_zero, List.set_cons_succ]
  refine takeH (i := 1) (d := some 21) (v := ?_) rfl rfl (by kernel_rfl) (by kernel_rfl) (by kernel_rfl) (fun _ _ _ h => h) (Or.inl ⟨by rfl, ?_⟩) hS ?_
  rotate_left
  · intro wx hSx; clear hSx; first | (go_simp; done) | (go_simp; with_reducible rfl)
  simp only [Act.put, List.setIfInBounds_toArray, List.set_cons_zero, List.set_cons_succ]
  generalize hwa : World.drew _ = wa at hS ⊢
  clear hwa
  have HSa := Lib.hid hS
  clear hS
  refine wpAnyH_ready (rs := [2]) (by kernel_rfl) (by simp) ?_
  refine AllReadyH.cons rfl (fun K hK => ?_) AllReadyH.nil
  rw [if_pos (by rfl)]
  try go_simp
  refine (canP_e HCS.out (HW.out.keep HSa.out) HF.out hl2).mono ?_
  rintro r wv ⟨⟨U, cu, rfl, hU⟩, hb⟩
  refine hK.out _ _ (below_seq HSa.out hb) (fun hS2 => ?_)
  clear hK K
  try simp only [Act.put, List.setIfInBounds_toArray, List.set_cons_zero, List.set_cons_succ]
  have HU := Lib.hid hU
  replace HSa := Lib.hid hS2
  clear hS2 hb hU wa
  rename World => wa
  refine wpAnyH_ready (rs := [3]) (by kernel_rfl) (by simp) ?_
  refine AllReadyH.cons rfl (fun K hK => ?_) AllReadyH.nil
  rw [if_pos (by rfl)]
  try go_simp
  refine (runP_e HE2.out (HR.out.keep HSa.out) HU.out).mono ?_
  rintro r wv ⟨⟨Y, cy, rfl, hY⟩, hb⟩
  refine hK.out _ _ (below_seq HSa.out hb) (fun hS2 => ?_)
  clear hK K
  try simp only [Act.put, List.setIfInBounds_toArray, List.set_cons_zero, List.set_cons_succ]
  have HY := Lib.hid hY
  replace HSa := Lib.hid hS2
  clear hS2 hb hY HU wa
  rename World => wa
  refine takeH (i := 4) (d := some 19) (v := ?_) rfl rfl (by kernel_rfl) (by kernel_rfl) (by kernel_rfl) (fun _ _ _ h => h) (Or.inl ⟨by rfl, ?_⟩) HSa.out ?_
  rotate_left
  · intro wx hSx; clear hSx; first | (go_simp; done) | (go_simp; with_reducible rfl)
  simp only [Act.put, List.setIfInBounds_toArray, List.set_cons_zero, List.set_cons_succ]
  refine takeH (i := 5) (d := some 24) (v := ?_) rfl rfl (by kernel_rfl) (by kernel_rfl) (by kernel_rfl) (fun _ _ _ h => h) (Or.inl ⟨by rfl, ?_⟩) HSa.out ?_
  rotate_left
  · intro wx hSx; clear hSx; first | (go_simp; done) | (go_simp; with_reducible rfl)
  simp only [Act.put, List.setIfInBounds_toArray, List.set_cons_zero, List.set_cons_succ]
  refine takeH (i := 6) (d := some 25) (v := ?_) rfl rfl (by kernel_rfl) (by kernel_rfl) (by kernel_rfl) (fun _ _ _ h => h) (Or.inl ⟨by rfl, ?_⟩) HSa.out ?_
  rotate_left
  · intro wx hSx; clear hSx; first | (go_simp; done) | (go_simp; with_reducible rfl)
  simp only [Act.put, List.setIfInBounds_toArray, List.set_cons_zero, List.set_cons_succ]
  refine takeH (i := 7) (d := some 7) (v := ?_) rfl rfl (by kernel_rfl) (by kernel_rfl) (by kernel_rfl) (fun _ _ _ h => h) (Or.inl ⟨by rfl, ?_⟩) HSa.out ?_
  rotate_left
  · intro wx hSx; clear hSx; first | (go_simp; done) | (go_simp; with_reducible rfl)
  simp only [Act.put, List.setIfInBounds_toArray, List.set_cons_zero, List.set_cons_succ]
  refine takeH (i := 8) (d := some 8) (v := ?_) rfl rfl (by kernel_rfl) (by kernel_rfl) (by kernel_rfl) (fun _ _ _ h => h) (Or.inl ⟨by rfl, ?_⟩) HSa.out ?_
  rotate_left
  · intro wx hSx; clear hSx; first | (go_simp; done) | (go_simp; with_reducible rfl)
  simp only [Act.put, List.setIfInBounds_toArray, List.set_cons_zero, List.set_cons_succ]
  refine wpAnyH_done (by kernel_rfl) ?_ _
  replace HX := Lib.hid (HX.out.keep HSa.out)
  replace HBL := Lib.hid (below_seq HBL.out HSa.out)
  clear HSa BX HR HW
  have e1 : (x == x) = true := beq_self_eq_true x
  have e2 : decide (x = x) = true := decide_eq_true rfl
  go_wp2_with fail
  refine (ints_t HX.out HY.out).mono ?_
  rintro r w5 ⟨rfl, hb⟩
  replace HBL := Lib.hid (below_seq HBL.out hb)
  clear hb HX HY e1 e2
  by_cases hx : x = 0
  · have h1 := HLN.out hx
    have e3 : ((L.length : Int) == (ws.length : Int)) = true := by rw [h1]; simp
    have e4 : decide ((L.length : Int) = (ws.length : Int)) = true := by rw [h1]; simp
    have e5 : (L.length == ws.length) = true := by rw [h1]; simp
    subst hx
    clear h1
    go_wp2_with fail
    refine (awake_p _).mono ?_
    rintro r wz ⟨rfl, hb⟩
    replace HBL := Lib.hid (below_seq HBL.out hb)
    go_wp2_with fail
    go_ret
    exact ⟨rfl, HBL.out⟩
  · have e3 : (x != 0) = true := bne_iff_ne.2 hx
    have e4 : decide (x = 0) = false := decide_eq_false hx
    have e5 : (x == 0) = false := beq_eq_false_iff_ne.2 hx
    clear hx
    go_wp2_with fail
    refine (awake_p _).mono ?_
    rintro r wz ⟨rfl, hb⟩
    replace HBL := Lib.hid (below_seq HBL.out hb)
    go_wp2_with fail
    go_ret
    exact ⟨rfl, HBL.out⟩
theorem registerRenames_walk (w : World) (a0 a1 : Int) (A2 : Option Addr) (c2 : Nat) (x2 : List Int) (A3 : Option Addr) (c3 : Nat) (x3 : List (List (List Rg.T))) (A4 : Option Addr) (c4 : Nat) (x4 : Rg.Dw)
    (_ : (Lit.int .i64 a0).wf = true) (_ : (Lit.int .i64 a1).wf = true) (r2 : Rd w A2 x2) (_ : Wf .i64 x2) (r3 : RdS (RdS RdT) w A3 x3) (r4 : Rd2 w A4 x4) (w4 : WfW x4) :
    Calls Try.prog 8 #[.agg #[.int .i64 a0, .int .i64 a1, .slice A2 x2.length c2, .slice A3 x3.length c3], .slice A4 x4.length c4] w fun e w' => e = .returned (.bool true) ∧ Below w.heap.size w w' :=
  registerRenames_core ⟨a0, a1, x2, x3⟩ A2 A3 A4 c2 c3 c4 x4 w ⟨r2, r3⟩ r4 w4
end Go.Proofs.Ytaoebjabdejpoaa
