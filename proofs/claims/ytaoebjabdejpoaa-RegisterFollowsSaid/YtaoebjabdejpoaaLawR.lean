/- The walk of the statement RegisterRuns. -/
import Derived.Test.YtaoebjabdejpoaaAwk
import Derived.Test.YtaoebjabdejpoaaOpenT
namespace Go.Proofs.Ytaoebjabdejpoaa
open Go.RowKit

section
variable {m : Rg.M} {A B C : Option Addr} {w : World} {x : Int} {L : List Int} {ws : Rg.Dw}
theorem runP_e {c d e : Nat} (hE : Rg.runE m ws = (x, L)) (hR : RdA w A B m) (hW : Rd2 w C ws) :
    Calls Try.prog 11 #[regV m A B c d, .slice C ws.length e] w fun r w' => (∃ X cx, r = .returned (.tuple #[.slice X L.length cx, .int .i64 x]) ∧ Rd w' X L) ∧ Below w.heap.size w w' := by
  have h := runP_t m A B c d w ws C e hR hW
  rw [hE] at h; exact h
theorem runR_e {c d e : Nat} (hE : Rg.runE m ws = (x, L)) (hR : RdA w A B m) (hW : Rd2 w C ws) :
    Calls Try.prog 12 #[regV m A B c d, .slice C ws.length e] w fun r w' => (∃ X cx, r = .returned (.tuple #[.slice X L.length cx, .int .i64 x]) ∧ Rd w' X L) ∧ Below w.heap.size w w' := by
  have h := runR_t m A B c d w ws C e hR hW
  rw [hE] at h; exact h
theorem validP_e (c d : Nat) (hR : RdA w A B m) (hx : Rg.validE m = x) :
    Calls Try.prog 13 #[regV m A B c d] w fun r w' => r = .returned (.int .i64 x) ∧ Below w.heap.size w w' := by
  subst hx; exact valid_p m A B c d w hR
theorem validR_e (c d : Nat) (hR : RdA w A B m) (hx : Rg.validE m = x) :
    Calls Try.prog 14 #[regV m A B c d] w fun r w' => r = .returned (.int .i64 x) ∧ Below w.heap.size w w' := by
  subst hx; exact valid_r m A B c d w hR
theorem ints_t {c d : Nat} (h : Rd w A L) (g : Rd w B L) :
    Calls Try.prog 15 #[.slice A L.length c, .slice B L.length d] w fun e w' => e = .returned (.bool true) ∧ Below w.heap.size w w' :=
  (ints_b A B L.length L.length c d L L w rfl rfl h g).mono fun _ _ ⟨he, hb⟩ => ⟨by rw [he]; simp, hb⟩
theorem data_t {c d : Nat} (h : Rd2 w A ws) (g : Rd2 w B ws) :
    Calls Try.prog 18 #[.slice A ws.length c, .slice B ws.length d] w fun e w' => e = .returned (.bool true) ∧ Below w.heap.size w w' :=
  (data_b A B ws.length ws.length c d ws ws w rfl rfl h g).mono fun _ _ ⟨he, hb⟩ => ⟨by rw [he]; simp, hb⟩
end
set_option maxRecDepth 100000 in
set_option maxHeartbeats 8000000 in
theorem registerRuns_core (m : Rg.M) (A B C : Option Addr) (c d e : Nat) (ws : Rg.Dw) (w : World) (hR : RdA w A B m) (hW : Rd2 w C ws) :
    Calls Try.prog 3 #[regV m A B c d, .slice C ws.length e] w fun e w' => e = .returned (.bool true) ∧ Below w.heap.size w w' := by
  have ml := hW.1
  obtain ⟨x, L, hE⟩ : ∃ x L, Rg.runE m ws = (x, L) := ⟨_, _, rfl⟩
  have HE := Lib.hid hE
  clear hE
  obtain ⟨v, hv⟩ : ∃ v, Rg.validE m = v := ⟨_, rfl⟩
  have HV := Lib.hid hv
  clear hv
  go_enter Try.func3, Try.ntmps3
  go_upto_region 1 with fail
  generalize hwb : World.alloc _ _ = w0
  have BX : Hid (Blk w0 w.heap.size 25 (tc m A c B d)) := Lib.hid (by rw [← hwb]; exact Blk.new _ _ _)
  have HBL : Hid (Below w.heap.size w w0) := Lib.hid (by rw [← hwb]; exact (Below.refl _ _).alloc (Nat.le_refl _) _)
  clear hwb
  have HR := Lib.hid (hR.keep HBL.out)
  clear hR
  have HW := Lib.hid (hW.keep HBL.out)
  clear hW
  by_cases hl : (1100 : Int) < (ws.length : Int)
  · skip
    go_wp2_with fail
    refine (awake_p _).mono ?_
    rintro r wz ⟨rfl, hb⟩
    replace HBL := Lib.hid (below_seq HBL.out hb)
    go_wp2_with fail
    go_ret
    exact ⟨rfl, HBL.out⟩
  go_wp2_with (first | (refine wpList_load_row rfl 25 _ rfl w.heap.size rfl 25 (tc m A c B d) (0, 0) _ BX.out Try.underlying25 rfl (by kernel_rfl) ?_))
  refine (runP_e HE.out HR.out HW.out).mono ?_
  rintro r w1 ⟨⟨X, cx, rfl, hX⟩, hb⟩
  have HX := Lib.hid hX
  replace BX := Lib.hid (BX.out.keep hb)
  replace HR := Lib.hid (HR.out.keep hb)
  replace HW := Lib.hid (HW.out.keep hb)
  replace HBL := Lib.hid (below_seq HBL.out hb)
  clear hb hX
  go_wp2_with (first | (refine wpList_load_row rfl 25 _ rfl w.heap.size rfl 25 (tc m A c B d) (0, 0) _ BX.out Try.underlying25 rfl (by kernel_rfl) ?_))
  refine (runR_e HE.out HR.out HW.out).mono ?_
  rintro r w2 ⟨⟨Y, cy, rfl, hY⟩, hb⟩
  have HY := Lib.hid hY
  replace BX := Lib.hid (BX.out.keep hb)
  replace HR := Lib.hid (HR.out.keep hb)
  replace HW := Lib.hid (HW.out.keep hb)
  replace HX := Lib.hid (HX.out.keep hb)
  replace HBL := Lib.hid (below_seq HBL.out hb)
  clear hb hY
  go_upto_region 5 with fail
  refine wp_region_held_drew (S := fun wx => Below w2.heap.size w2 wx) (by kernel_rfl) ((Below.refl _ _).drew) (fun hS => ?_)
  refine takeH (i := 0) (d := some 25) (v := .agg #[.int .i64 m.I, .int .i64 m.S, .slice A m.rg.length c, .slice B m.tr.length d]) rfl rfl (by kernel_rfl) (by kernel_rfl) (by kernel_rfl) (fun _ _ _ h => h) (yieldsIf_load_any (by rfl) 25 _ rfl ⟨w.heap.size, 0, none⟩ rfl [.int .i64 m.I, .int .i64 m.S, .slice A m.rg.length c, .slice B m.tr.length d] _ (fun wx hSx => ((Blk.keep BX.out hSx).part 0 _ rfl)) Try.underlying25 rfl (by kernel_rfl)) hS ?_
  simp only [Act.put, List.setIfInBounds_toArray, List.set_cons_zero, List.set_cons_succ]
  refine takeH (i := 2) (d := some 27) (v := .agg #[.int .i64 m.I, .int .i64 m.S, .slice A m.rg.length c, .slice B m.tr.length d]) rfl rfl (by kernel_rfl) (by kernel_rfl) (by kernel_rfl) (fun _ _ _ h => h) (yieldsIf_load_any (by rfl) 25 _ rfl ⟨w.heap.size, 0, none⟩ rfl [.int .i64 m.I, .int .i64 m.S, .slice A m.rg.length c, .slice B m.tr.length d] _ (fun wx hSx => ((Blk.keep BX.out hSx).part 0 _ rfl)) Try.underlying25 rfl (by kernel_rfl)) hS ?_
  simp only [Act.put, List.setIfInBounds_toArray, List.set_cons_zero, List.set_cons_succ]
  generalize hwa : World.drew _ = wa at hS ⊢
  clear hwa
  have HSa := Lib.hid hS
  clear hS
  refine wpAnyH_ready (rs := [1]) (by kernel_rfl) (by simp) ?_
  refine AllReadyH.cons rfl (fun K hK => ?_) AllReadyH.nil
  rw [if_pos (by rfl)]
  try go_simp
  refine (validP_e c d (HR.out.keep HSa.out) HV.out).mono ?_
  rintro r wv ⟨rfl, hb⟩
  refine hK.out _ _ (below_seq HSa.out hb) (fun hS2 => ?_)
  clear hK K
  try simp only [Act.put, List.setIfInBounds_toArray, List.set_cons_zero, List.set_cons_succ]
  replace HSa := Lib.hid hS2
  clear hS2 hb wa
  rename World => wa
  refine wpAnyH_ready (rs := [3]) (by kernel_rfl) (by simp) ?_
  refine AllReadyH.cons rfl (fun K hK => ?_) AllReadyH.nil
  rw [if_pos (by rfl)]
  try go_simp
  refine (validR_e c d (HR.out.keep HSa.out) HV.out).mono ?_
  rintro r wv ⟨rfl, hb⟩
  refine hK.out _ _ (below_seq HSa.out hb) (fun hS2 => ?_)
  clear hK K
  try simp only [Act.put, List.setIfInBounds_toArray, List.set_cons_zero, List.set_cons_succ]
  replace HSa := Lib.hid hS2
  clear hS2 hb wa
  rename World => wa
  refine takeH (i := 4) (d := some 29) (v := ?_) rfl rfl (by kernel_rfl) (by kernel_rfl) (by kernel_rfl) (fun _ _ _ h => h) (Or.inl ⟨by rfl, ?_⟩) HSa.out ?_
  rotate_left
  · intro wx hSx; clear hSx; first | (go_simp; done) | (go_simp; with_reducible rfl)
  simp only [Act.put, List.setIfInBounds_toArray, List.set_cons_zero, List.set_cons_succ]
  refine takeH (i := 5) (d := some 30) (v := ?_) rfl rfl (by kernel_rfl) (by kernel_rfl) (by kernel_rfl) (fun _ _ _ h => h) (Or.inl ⟨by rfl, ?_⟩) HSa.out ?_
  rotate_left
  · intro wx hSx; clear hSx; first | (go_simp; done) | (go_simp; with_reducible rfl)
  simp only [Act.put, List.setIfInBounds_toArray, List.set_cons_zero, List.set_cons_succ]
  refine takeH (i := 6) (d := some 31) (v := ?_) rfl rfl (by kernel_rfl) (by kernel_rfl) (by kernel_rfl) (fun _ _ _ h => h) (Or.inl ⟨by rfl, ?_⟩) HSa.out ?_
  rotate_left
  · intro wx hSx; clear hSx; first | (go_simp; done) | (go_simp; with_reducible rfl)
  simp only [Act.put, List.setIfInBounds_toArray, List.set_cons_zero, List.set_cons_succ]
  refine takeH (i := 7) (d := some 32) (v := ?_) rfl rfl (by kernel_rfl) (by kernel_rfl) (by kernel_rfl) (fun _ _ _ h => h) (Or.inl ⟨by rfl, ?_⟩) HSa.out ?_
  rotate_left
  · intro wx hSx; clear hSx; first | (go_simp; done) | (go_simp; with_reducible rfl)
  simp only [Act.put, List.setIfInBounds_toArray, List.set_cons_zero, List.set_cons_succ]
  refine wpAnyH_ready (rs := [8]) (by kernel_rfl) (by simp) ?_
  refine AllReadyH.cons rfl (fun K hK => ?_) AllReadyH.nil
  rw [if_pos (by rfl)]
  try go_simp
  refine (ints_t (HX.out.keep HSa.out) (HY.out.keep HSa.out)).mono ?_
  rintro r wv ⟨rfl, hb⟩
  refine hK.out _ _ (below_seq HSa.out hb) (fun hS2 => ?_)
  clear hK K
  try simp only [Act.put, List.setIfInBounds_toArray, List.set_cons_zero, List.set_cons_succ]
  replace HSa := Lib.hid hS2
  clear hS2 hb wa
  rename World => wa
  refine takeH (i := 9) (d := some 34) (v := ?_) rfl rfl (by kernel_rfl) (by kernel_rfl) (by kernel_rfl) (fun _ _ _ h => h) (Or.inl ⟨by rfl, ?_⟩) HSa.out ?_
  rotate_left
  · intro wx hSx; clear hSx; first | (go_simp; done) | (go_simp; with_reducible rfl)
  simp only [Act.put, List.setIfInBounds_toArray, List.set_cons_zero, List.set_cons_succ]
  refine takeH (i := 10) (d := some 35) (v := ?_) rfl rfl (by kernel_rfl) (by kernel_rfl) (by kernel_rfl) (fun _ _ _ h => h) (Or.inl ⟨by rfl, ?_⟩) HSa.out ?_
  rotate_left
  · intro wx hSx; clear hSx; first | (go_simp; done) | (go_simp; with_reducible rfl)
  simp only [Act.put, List.setIfInBounds_toArray, List.set_cons_zero, List.set_cons_succ]
  refine takeH (i := 11) (d := some 36) (v := ?_) rfl rfl (by kernel_rfl) (by kernel_rfl) (by kernel_rfl) (fun _ _ _ h => h) (Or.inl ⟨by rfl, ?_⟩) HSa.out ?_
  rotate_left
  · intro wx hSx; clear hSx; first | (go_simp; done) | (go_simp; with_reducible rfl)
  simp only [Act.put, List.setIfInBounds_toArray, List.set_cons_zero, List.set_cons_succ]
  refine takeH (i := 12) (d := some 37) (v := ?_) rfl rfl (by kernel_rfl) (by kernel_rfl) (by kernel_rfl) (fun _ _ _ h => h) (Or.inl ⟨by rfl, ?_⟩) HSa.out ?_
  rotate_left
  · intro wx hSx; clear hSx; first | (go_simp; done) | (go_simp; with_reducible rfl)
  simp only [Act.put, List.setIfInBounds_toArray, List.set_cons_zero, List.set_cons_succ]
  refine takeH (i := 13) (d := some 38) (v := ?_) rfl rfl (by kernel_rfl) (by kernel_rfl) (by kernel_rfl) (fun _ _ _ h => h) (Or.inl ⟨by rfl, ?_⟩) HSa.out ?_
  rotate_left
  · intro wx hSx; clear hSx; first | (go_simp; done) | (go_simp; with_reducible rfl)
  simp only [Act.put, List.setIfInBounds_toArray, List.set_cons_zero, List.set_cons_succ]
  refine takeH (i := 14) (d := some 39) (v := ?_) rfl rfl (by kernel_rfl) (by kernel_rfl) (by kernel_rfl) (fun _ _ _ h => h) (Or.inl ⟨by rfl, ?_⟩) HSa.out ?_
  rotate_left
  · intro wx hSx; clear hSx; first | (go_simp; done) | (go_simp; with_reducible rfl)
  simp only [Act.put, List.setIfInBounds_toArray, List.set_cons_zero, List.set_cons_succ]
  refine takeH (i := 15) (d := some 40) (v := ?_) rfl rfl (by kernel_rfl) (by kernel_rfl) (by kernel_rfl) (fun _ _ _ h => h) (Or.inl ⟨by rfl, ?_⟩) HSa.out ?_
  rotate_left
  · intro wx hSx; clear hSx; first | (go_simp; done) | (go_simp; with_reducible rfl)
  simp only [Act.put, List.setIfInBounds_toArray, List.set_cons_zero, List.set_cons_succ]
  refine wpAnyH_ready (rs := [16]) (by kernel_rfl) (by simp) ?_
  refine AllReadyH.cons rfl (fun K hK => ?_) AllReadyH.nil
  rw [if_pos (by rfl)]
  try go_simp
  refine (awake_p wa).mono ?_
  rintro r wv ⟨rfl, hb⟩
  refine hK.out _ _ (below_seq HSa.out hb) (fun hS2 => ?_)
  clear hK K
  try simp only [Act.put, List.setIfInBounds_toArray, List.set_cons_zero, List.set_cons_succ]
  replace HSa := Lib.hid hS2
  clear hS2 hb wa
  rename World => wa
  refine takeH (i := 17) (d := some 42) (v := ?_) rfl rfl (by kernel_rfl) (by kernel_rfl) (by kernel_rfl) (fun _ _ _ h => h) (Or.inl ⟨by rfl, ?_⟩) HSa.out ?_
  rotate_left
  · intro wx hSx; clear hSx; first | (go_simp; done) | (go_simp; with_reducible rfl)
  simp only [Act.put, List.setIfInBounds_toArray, List.set_cons_zero, List.set_cons_succ]
  refine takeH (i := 18) (d := some 4) (v := ?_) rfl rfl (by kernel_rfl) (by kernel_rfl) (by kernel_rfl) (fun _ _ _ h => h) (Or.inl ⟨by rfl, ?_⟩) HSa.out ?_
  rotate_left
  · intro wx hSx; clear hSx; first | (go_simp; done) | (go_simp; with_reducible rfl)
  simp only [Act.put, List.setIfInBounds_toArray, List.set_cons_zero, List.set_cons_succ]
  refine wpAnyH_done (by kernel_rfl) ?_ _
  go_wp2_with fail
  go_ret
  exact ⟨rfl, below_seq HBL.out HSa.out⟩
theorem registerRuns_walk (w : World) (a0 a1 : Int) (A2 : Option Addr) (c2 : Nat) (x2 : List Int) (A3 : Option Addr) (c3 : Nat) (x3 : List (List (List Rg.T))) (A4 : Option Addr) (c4 : Nat) (x4 : Rg.Dw)
    (_ : (Lit.int .i64 a0).wf = true) (_ : (Lit.int .i64 a1).wf = true) (r2 : Rd w A2 x2) (_ : Wf .i64 x2) (r3 : RdS (RdS RdT) w A3 x3) (r4 : Rd2 w A4 x4) (_ : WfW x4) :
    Calls Try.prog 3 #[.agg #[.int .i64 a0, .int .i64 a1, .slice A2 x2.length c2, .slice A3 x3.length c3], .slice A4 x4.length c4] w fun e w' => e = .returned (.bool true) ∧ Below w.heap.size w w' :=
  registerRuns_core ⟨a0, a1, x2, x3⟩ A2 A3 A4 c2 c3 c4 x4 w ⟨r2, r3⟩ r4
end Go.Proofs.Ytaoebjabdejpoaa
