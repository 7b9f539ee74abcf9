/- learnerref06: Outs, From and Run of a valid machine for a word of its symbols. -/
import Derived.Test.YtaoebjabdejpoaaRVal
import Derived.Test.YtaoebjabdejpoaaRgF
import Derived.Test.YtaoebjabdejpoaaCanR
import Derived.Test.YtaoebjabdejpoaaChk
namespace Go.Proofs.Ytaoebjabdejpoaa
open Go.RowKit

set_option linter.unusedSimpArgs false
set_option maxRecDepth 100000 in
set_option maxHeartbeats 4000000 in
theorem outs_r (k S : Nat) (nx out : List (List Int)) (ws : List Int) (A B F : Option Addr) (c d f : Nat) (w : World) (ha : RdM .i64 w A nx) (hb : RdM .i64 w B out) (hw : Rd w F ws) (ok : Mea.Ok k S nx out) (hws : ∀ i, i < ws.length → 0 ≤ ws.getD i 0 ∧ ws.getD i 0 < k) (hl : ws.length ≤ 1024) :
    Calls Try.prog 51 #[.agg #[.int .i64 (k : Int), .int .i64 (S : Int), .slice A nx.length c, .slice B out.length d], .int .i64 (S : Int), .slice F ws.length f] w fun r w' => (∃ v, r = .returned (.tuple #[v, .int .i64 (Rg.mSt nx S ws ws.length : Nat)]) ∧ OwnL elI 1 w' w.heap.size 3 v (Rg.mOuts nx out S ws ws.length)) ∧ Below w.heap.size w w' := by
  have mx := ha.1
  have my := hb.1
  have mw := hw.1
  have HO := Lib.hid ok
  have HR := Lib.hid hws
  clear hws
  go_enter Try.func51, Try.ntmps51
  go_upto_region 1 with fail
  generalize hwb : World.alloc _ _ = w0
  have BX : Hid (Blk w0 w.heap.size 52 #[.int .i64 (k : Int), .int .i64 (S : Int), .slice A nx.length c, .slice B out.length d]) := Lib.hid (by rw [← hwb]; exact Blk.new _ _ _)
  have hbel : Hid (Below w.heap.size w w0) := Lib.hid (by rw [← hwb]; exact (Below.refl _ _).alloc (Nat.le_refl _) _)
  have hsz : w.heap.size ≤ w0.heap.size := hbel.out.size
  have HA := Lib.hid (ha.keep hbel.out)
  have HBt := Lib.hid (hb.keep hbel.out)
  have HW := Lib.hid (hw.keep hbel.out)
  have K2 : Hid (w0.cell? ⟨w.heap.size, 2, none⟩ = some (.slice A nx.length c)) := Lib.hid (BX.out.cell 2)
  have K3 : Hid (w0.cell? ⟨w.heap.size, 3, none⟩ = some (.slice B out.length d)) := Lib.hid (BX.out.cell 3)
  clear ha hb hw ok hwb BX
  go_wp2_with fail
  go_loopw [1, 8, 9] (fun v l u wr => ∃ j : Nat, j ≤ ws.length ∧ v = .int .i64 (Rg.mSt nx S ws j : Nat) ∧ u = .int .i64 (j : Int) ∧ Hid (OwnL elI 1 wr w0.heap.size 3 l (Rg.mOuts nx out S ws j)) ∧ Hid (Below w0.heap.size w0 wr)) (fun _ _ u _ => ws.length - (intOf u).toNat)
  case atStart => exact ⟨0, Nat.zero_le _, rfl, rfl, Lib.hid (World.ownsRow_nil _ _ _ _), Lib.hid (Below.refl _ _)⟩
  case round =>
    obtain ⟨j, hj, rfl, rfl, HOw, HB⟩ := hrel
    rename World => wr
    obtain ⟨U, uc, hU⟩ := own_slice HOw.out
    rw [Rg.mOuts_len] at hU
    subst hU
    by_cases hjl : j < ws.length
    rotate_left
    · obtain rfl : j = ws.length := by omega
      go_wp2_with fail
      go_ret2
      exact ⟨⟨_, rfl, own_mono HOw.out hsz⟩, below_seq hbel.out HB.out⟩
    obtain ⟨ad, a, rfl, ha, ca⟩ := HW.out.at_ hjl
    have hr := HR.out _ hjl
    rw [ha] at hr
    obtain ⟨n, rfl⟩ : ∃ n : Nat, a = (n : Int) := ⟨a.toNat, by omega⟩
    have hqn := Rg.mSt_lt HO.out HR.out j hj
    have hn : n < k := by omega
    have hon : (Rg.mOuts nx out S ws j).length ≤ 1099511627776 := by rw [Rg.mOuts_len]; omega
    obtain ⟨q, hq⟩ : ∃ q, q = Rg.mSt nx S ws j := ⟨_, rfl⟩
    rw [← hq] at hqn ⊢
    have hq2 : q < out.length := by rw [HO.out.o]; exact hqn
    obtain ⟨adA, A1, c1, row, rfl, hrow, cA, hrA⟩ := HA.out.at_ hqn
    obtain ⟨adB, B1, d1, orow, rfl, horow, cB, hrB⟩ := HBt.out.at_ hq2
    have hn1 : n < row.length := by rw [← hrow, HO.out.rowN q hqn]; exact hn
    have hn2 : n < orow.length := by rw [← horow, HO.out.rowO q hqn]; exact hn
    obtain ⟨adA1, tar, rfl, htar, cA1⟩ := hrA.at_ hn1
    obtain ⟨adB1, o, rfl, ho, cB1⟩ := hrB.at_ hn2
    have hcell := HO.out.cell q n hqn hn
    rw [hrow, htar] at hcell
    have ht1 : 0 ≤ tar := hcell.1
    obtain ⟨t, rfl⟩ : ∃ t : Nat, tar = (t : Int) := ⟨tar.toNat, by omega⟩
    have HNX : Hid (Rg.mSt nx S ws (j + 1) = t) := Lib.hid (by
      show ((nx.getD (Rg.mSt nx S ws j) []).getD (ws.getD j 0).toNat 0).toNat = t
      rw [← hq, ha, Int.toNat_natCast, hrow, htar, Int.toNat_natCast])
    have HOX : Hid (Rg.mOuts nx out S ws (j + 1) = Rg.mOuts nx out S ws j ++ [o]) := Lib.hid (by
      rw [Rg.mOuts_succ]
      unfold Rg.mOut
      rw [← hq, ha, Int.toNat_natCast, horow, ho])
    have mrl := hrA.1
    have mol := hrB.1
    have CA := Lib.hid cA
    have CW := Lib.hid ca
    have CA1 := Lib.hid cA1
    have k3 := K3.out
    clear hrow horow htar ho ha hcell hr hrA hrB hq ht1
    go_upto_region 5 with fail
    refine wp_region_held_drew (S := fun wx => Below w0.heap.size w0 wx) (by kernel_rfl) (HB.out.drew) (fun hS => ?_)
    refine takeH (i := 0) (d := some 16) (v := ?_) rfl rfl (by kernel_rfl) (by kernel_rfl) (by kernel_rfl) (fun _ _ _ h => h) (Or.inl ⟨by rfl, ?_⟩) hS ?_
    rotate_left
    · intro wx hSx; clear hSx; first | (go_simp; done) | (go_simp; with_reducible rfl)
    simp only [Act.put, List.setIfInBounds_toArray, List.set_cons_zero, List.set_cons_succ]
    refine takeH (i := 1) (d := some 17) (v := ?_) rfl rfl (by kernel_rfl) (by kernel_rfl) (by kernel_rfl) (fun _ _ _ h => h) (Or.inl ⟨by rfl, ?_⟩) hS ?_
    rotate_left
    · intro wx hSx; clear hSx; first | (go_simp; done) | (go_simp; with_reducible rfl)
    simp only [Act.put, List.setIfInBounds_toArray, List.set_cons_zero, List.set_cons_succ]
    refine takeH (i := 2) (d := some 18) (v := ?_) rfl rfl (by kernel_rfl) (by kernel_rfl) (by kernel_rfl) (fun _ _ _ h => h) (Or.inl ⟨by rfl, ?_⟩) hS ?_
    rotate_left
    · intro wx hSx; have hSy : Below w0.heap.size w0 wx := hSx; have e0 := keep_cell hSy k3; have e1 := keep_cell hSy cB; have e2 := keep_cell hSy ca; have e3 := keep_cell hSy cB1; clear hSy hSx; first | (go_simp; done) | (go_simp; with_reducible rfl)
    simp only [Act.put, List.setIfInBounds_toArray, List.set_cons_zero, List.set_cons_succ]
    refine takeH (i := 3) (d := some 19) (v := ?_) rfl rfl (by kernel_rfl) (by kernel_rfl) (by kernel_rfl) (fun _ _ _ h => h) (Or.inl ⟨by rfl, ?_⟩) hS ?_
    rotate_left
    · intro wx hSx; clear hSx; first | (go_simp; done) | (go_simp; with_reducible rfl)
    simp only [Act.put, List.setIfInBounds_toArray, List.set_cons_zero, List.set_cons_succ]
    refine takeH (i := 4) (d := some 20) (v := ?_) rfl rfl (by kernel_rfl) (by kernel_rfl) (by kernel_rfl) (fun _ _ _ h => h) (Or.inl ⟨by rfl, ?_⟩) hS ?_
    rotate_left
    · intro wx hSx; clear hSx; first | (go_simp; done) | (go_simp; with_reducible rfl)
    simp only [Act.put, List.setIfInBounds_toArray, List.set_cons_zero, List.set_cons_succ]
    refine takeH (i := 5) (d := some 21) (v := ?_) rfl rfl (by kernel_rfl) (by kernel_rfl) (by kernel_rfl) (fun _ _ _ h => h) (Or.inl ⟨by rfl, ?_⟩) hS ?_
    rotate_left
    · intro wx hSx; have hSy : Below w0.heap.size w0 wx := hSx; have e0 := keep_cell hSy k3; have e1 := keep_cell hSy cB; have e2 := keep_cell hSy ca; have e3 := keep_cell hSy cB1; clear hSy hSx; first | (go_simp; done) | (go_simp; with_reducible rfl)
    simp only [Act.put, List.setIfInBounds_toArray, List.set_cons_zero, List.set_cons_succ]
    refine takeH (i := 6) (d := some 22) (v := ?_) rfl rfl (by kernel_rfl) (by kernel_rfl) (by kernel_rfl) (fun _ _ _ h => h) (Or.inl ⟨by rfl, ?_⟩) hS ?_
    rotate_left
    · intro wx hSx; clear hSx; first | (go_simp; done) | (go_simp; with_reducible rfl)
    simp only [Act.put, List.setIfInBounds_toArray, List.set_cons_zero, List.set_cons_succ]
    refine takeH (i := 7) (d := some 23) (v := ?_) rfl rfl (by kernel_rfl) (by kernel_rfl) (by kernel_rfl) (fun _ _ _ h => h) (Or.inl ⟨by rfl, ?_⟩) hS ?_
    rotate_left
    · intro wx hSx; clear hSx; first | (go_simp; done) | (go_simp; with_reducible rfl)
    simp only [Act.put, List.setIfInBounds_toArray, List.set_cons_zero, List.set_cons_succ]
    refine takeH (i := 8) (d := some 24) (v := ?_) rfl rfl (by kernel_rfl) (by kernel_rfl) (by kernel_rfl) (fun _ _ _ h => h) (Or.inl ⟨by rfl, ?_⟩) hS ?_
    rotate_left
    · intro wx hSx; clear hSx; first | (go_simp; done) | (go_simp; with_reducible rfl)
    simp only [Act.put, List.setIfInBounds_toArray, List.set_cons_zero, List.set_cons_succ]
    refine takeH (i := 9) (d := some 25) (v := ?_) rfl rfl (by kernel_rfl) (by kernel_rfl) (by kernel_rfl) (fun _ _ _ h => h) (Or.inl ⟨by rfl, ?_⟩) hS ?_
    rotate_left
    · intro wx hSx; have hSy : Below w0.heap.size w0 wx := hSx; have e0 := keep_cell hSy k3; have e1 := keep_cell hSy cB; have e2 := keep_cell hSy ca; have e3 := keep_cell hSy cB1; clear hSy hSx; first | (go_simp; done) | (go_simp; with_reducible rfl)
    simp only [Act.put, List.setIfInBounds_toArray, List.set_cons_zero, List.set_cons_succ]
    refine takeH (i := 10) (d := some 26) (v := ?_) rfl rfl (by kernel_rfl) (by kernel_rfl) (by kernel_rfl) (fun _ _ _ h => h) (Or.inl ⟨by rfl, ?_⟩) hS ?_
    rotate_left
    · intro wx hSx; clear hSx; first | (go_simp; done) | (go_simp; with_reducible rfl)
    simp only [Act.put, List.setIfInBounds_toArray, List.set_cons_zero, List.set_cons_succ]
    refine takeH (i := 11) (d := some 27) (v := ?_) rfl rfl (by kernel_rfl) (by kernel_rfl) (by kernel_rfl) (fun _ _ _ h => h) (Or.inl ⟨by rfl, ?_⟩) hS ?_
    rotate_left
    · intro wx hSx; have hSy : Below w0.heap.size w0 wx := hSx; have e0 := keep_cell hSy k3; have e1 := keep_cell hSy cB; have e2 := keep_cell hSy ca; have e3 := keep_cell hSy cB1; clear hSy hSx; first | (go_simp; done) | (go_simp; with_reducible rfl)
    simp only [Act.put, List.setIfInBounds_toArray, List.set_cons_zero, List.set_cons_succ]
    generalize hwa : World.drew _ = wa at hS ⊢
    have HOa : Hid (OwnL elI 1 wa w0.heap.size 3 (.slice U j uc) (Rg.mOuts nx out S ws j)) := Lib.hid (by rw [← hwa]; exact own_drewN HOw.out 1)
    clear hwa
    have HSa := Lib.hid hS
    clear hS
    refine wpAnyH_ready (rs := [12]) (by kernel_rfl) (by simp) ?_
    refine AllReadyH.cons rfl (fun K hK => ?_) AllReadyH.nil
    rw [if_pos (by rfl)]
    go_simp
    refine hK.out _ _ (Below.alloc HSa.out HSa.out.size _) (fun hS2 => ?_)
    clear hK K
    try simp only [Act.put, List.setIfInBounds_toArray, List.set_cons_zero, List.set_cons_succ]
    generalize hwb : World.alloc _ _ = wb at hS2 ⊢
    have hal : Below wa.heap.size wa wb := by rw [← hwb]; exact (Below.refl _ _).alloc (Nat.le_refl _) _
    have N1B : Hid (Blk wb wa.heap.size 3 #[.int .i64 o]) := Lib.hid (by rw [← hwb]; exact Blk.new _ _ _)
    replace HOa := Lib.hid (own_keep HOa.out hal)
    replace HSa := Lib.hid hS2
    generalize wa.heap.size = gN1B at *
    clear hS2 hwb hal wa
    rename World => wa
    refine wpAnyH_ready (rs := [13]) (by kernel_rfl) (by simp) ?_
    refine AllReadyH.cons rfl (fun K hK => ?_) AllReadyH.nil
    rw [if_pos (by rfl)]
    obtain ⟨v7, w7, hrun7, hn7, hg7, hl7, hb7, hbad7⟩ := own_app1 (P := Try.prog) elI_len (by decide) 22 22 3 (.int .i64 0) 8 Try.underlying22 infoI rfl (by decide) (y := o) rfl N1B.out HOa.out elI_one hon HSa.out.size
    refine wp_app_run (.tmp 16) (.tmp 28) 22 rfl hrun7 ?_
    refine hK.out _ _ (HSa.out.trans hb7) (fun hS2 => ?_)
    clear hK K hrun7
    change wpAnyH _ _ _ _ _ _ _ (Act.put _ (some 29) _) _
    try simp only [Act.put, List.setIfInBounds_toArray, List.set_cons_zero, List.set_cons_succ]
    replace HSa := Lib.hid hS2
    replace HOa := Lib.hid hn7
    clear hS2 hn7 hg7 hl7 hb7 hbad7 N1B wa
    rename World => wa
    refine takeH (i := 14) (d := some 8) (v := ?_) rfl rfl (by kernel_rfl) (by kernel_rfl) (by kernel_rfl) (fun _ _ _ h => h) (Or.inl ⟨by rfl, ?_⟩) HSa.out ?_
    rotate_left
    · intro wx hSx; clear hSx; first | (go_simp; done) | (go_simp; with_reducible rfl)
    simp only [Act.put, List.setIfInBounds_toArray, List.set_cons_zero, List.set_cons_succ]
    refine wpAnyH_done (by kernel_rfl) ?_ _
    go_wp2_with fail
    have k2a := keep_cell HSa.out K2.out
    have cAa := keep_cell HSa.out CA.out
    have caa := keep_cell HSa.out CW.out
    have cA1a := keep_cell HSa.out CA1.out
    go_upto_region 6 with fail
    go_quiet (fail)
    go_wp2_with fail
    go_roundw
    case rel => exact ⟨j + 1, by omega, by rw [HNX.out], by go_num, Lib.hid (by rw [HOX.out]; exact own_drewN HOa.out _), Lib.hid (below_drewN' HSa.out _)⟩
    case measure => simp [intOf] <;> omega
set_option maxRecDepth 100000 in
set_option maxHeartbeats 4000000 in
theorem from_r (k S : Nat) (nx out : List (List Int)) (ws : List Int) (A B F : Option Addr) (c d f : Nat) (w : World) (ha : RdM .i64 w A nx) (hb : RdM .i64 w B out) (hw : Rd w F ws) (ok : Mea.Ok k S nx out) (hws : ∀ i, i < ws.length → 0 ≤ ws.getD i 0 ∧ ws.getD i 0 < k) (hl : ws.length ≤ 1024) :
    Calls Try.prog 45 #[.agg #[.int .i64 (k : Int), .int .i64 (S : Int), .slice A nx.length c, .slice B out.length d], .int .i64 (S : Int), .slice F ws.length f] w fun r w' => (∃ v, r = .returned (.tuple #[v, .int .i64 (Rg.mSt nx S ws ws.length : Nat), .int .i64 0]) ∧ OwnL elI 1 w' w.heap.size 3 v (Rg.mOuts nx out S ws ws.length)) ∧ Below w.heap.size w w' := by
  have mx := ha.1
  have HO := Lib.hid ok
  have HRW := Lib.hid hws
  have hS := ok.s
  clear hws
  have HC : Hid (Rg.wordE (k : Int) ws = 0) := Lib.hid (by
    have h1 := ok.k1
    have h2 := ok.k64
    unfold Rg.wordE
    rw [if_neg (by omega), if_neg (by omega), Mea.firstE_zero (fun j hj => by have := HRW.out j hj; rw [if_neg (by omega)]), if_neg (by simp)])
  go_enter Try.func45, Try.ntmps45
  go_upto_region 1 with fail
  generalize hwb : World.alloc _ _ = w0
  have BX : Hid (Blk w0 w.heap.size 52 #[.int .i64 (k : Int), .int .i64 (S : Int), .slice A nx.length c, .slice B out.length d]) := Lib.hid (by rw [← hwb]; exact Blk.new _ _ _)
  have hbel : Hid (Below w.heap.size w w0) := Lib.hid (by rw [← hwb]; exact (Below.refl _ _).alloc (Nat.le_refl _) _)
  have HA := Lib.hid ha
  have HB := Lib.hid hb
  have HW := Lib.hid hw
  clear ha hb hw ok hwb
  go_wp2_with (first | (refine wpList_load_row rfl 52 _ rfl w.heap.size rfl 52 (#[.int .i64 (k : Int), .int .i64 (S : Int), .slice A nx.length c, .slice B out.length d]) (0, 0) _ BX.out Try.underlying52 rfl (by kernel_rfl) ?_))
  refine (rvalid k S A B c d nx out w0 (HA.out.keep hbel.out) (HB.out.keep hbel.out)).mono ?_
  rintro r w1 ⟨rfl, hb⟩
  rw [HO.out.valid]
  replace BX := Lib.hid (BX.out.keep hb)
  replace hbel := Lib.hid (below_seq hbel.out hb)
  clear hb w0
  have k0 : w1.cell? ⟨w.heap.size, 0, none⟩ = some (.int .i64 (k : Int)) := BX.out.cell 0
  have k2 : w1.cell? ⟨w.heap.size, 2, none⟩ = some (.slice A nx.length c) := BX.out.cell 2
  have e1 : decide ((S : Int) < 0) = false := decide_eq_false (by omega)
  have e2 : decide ((nx.length : Int) ≤ (S : Int)) = false := decide_eq_false (by omega)
  have e2' : decide (nx.length ≤ S) = false := decide_eq_false (by omega)
  go_wp2_with fail
  refine (word_r k F f ws w1 (HW.out.keep hbel.out)).mono ?_
  rintro r w2 ⟨rfl, rfl⟩
  rw [HC.out]
  go_wp2_with (first | (refine wpList_load_row rfl 52 _ rfl w.heap.size rfl 52 (#[.int .i64 (k : Int), .int .i64 (S : Int), .slice A nx.length c, .slice B out.length d]) (0, 0) _ BX.out Try.underlying52 rfl (by kernel_rfl) ?_))
  refine (outs_r k S nx out ws A B F c d f w1 (HA.out.keep hbel.out) (HB.out.keep hbel.out) (HW.out.keep hbel.out) HO.out HRW.out hl).mono ?_
  rintro r w3 ⟨⟨v, rfl, hv⟩, hb⟩
  have HV := Lib.hid (own_mono hv hbel.out.size)
  replace hbel := Lib.hid (below_seq hbel.out hb)
  clear hv hb k0 k2 BX e1 e2 e2'
  go_wp2_with fail
  go_ret3
  exact ⟨⟨_, rfl, HV.out⟩, hbel.out⟩
set_option maxRecDepth 100000 in
set_option maxHeartbeats 4000000 in
theorem mrun_r (k S : Nat) (nx out : List (List Int)) (ws : List Int) (A B F : Option Addr) (c d f : Nat) (w : World) (ha : RdM .i64 w A nx) (hb : RdM .i64 w B out) (hw : Rd w F ws) (ok : Mea.Ok k S nx out) (hws : ∀ i, i < ws.length → 0 ≤ ws.getD i 0 ∧ ws.getD i 0 < k) (hl : ws.length ≤ 1024) :
    Calls Try.prog 28 #[.agg #[.int .i64 (k : Int), .int .i64 (S : Int), .slice A nx.length c, .slice B out.length d], .slice F ws.length f] w fun r w' => (∃ v, r = .returned (.tuple #[v, .int .i64 0]) ∧ OwnL elI 1 w' w.heap.size 3 v (Rg.mOuts nx out S ws ws.length)) ∧ Below w.heap.size w w' := by
  have HA := Lib.hid ha
  have HB := Lib.hid hb
  have HW := Lib.hid hw
  have HO := Lib.hid ok
  have HRW := Lib.hid hws
  clear ha hb hw ok hws
  go_enter Try.func28, Try.ntmps28
  go_upto_region 1 with fail
  generalize hwb : World.alloc _ _ = w0
  have BX : Hid (Blk w0 w.heap.size 52 #[.int .i64 (k : Int), .int .i64 (S : Int), .slice A nx.length c, .slice B out.length d]) := Lib.hid (by rw [← hwb]; exact Blk.new _ _ _)
  have hbel : Hid (Below w.heap.size w w0) := Lib.hid (by rw [← hwb]; exact (Below.refl _ _).alloc (Nat.le_refl _) _)
  have k1 : w0.cell? ⟨w.heap.size, 1, none⟩ = some (.int .i64 (S : Int)) := BX.out.cell 1
  clear hwb
  go_wp2_with (first | (refine wpList_load_row rfl 52 _ rfl w.heap.size rfl 52 (#[.int .i64 (k : Int), .int .i64 (S : Int), .slice A nx.length c, .slice B out.length d]) (0, 0) _ BX.out Try.underlying52 rfl (by kernel_rfl) ?_))
  refine (from_r k S nx out ws A B F c d f w0 (HA.out.keep hbel.out) (HB.out.keep hbel.out) (HW.out.keep hbel.out) HO.out HRW.out hl).mono ?_
  rintro r w3 ⟨⟨v, rfl, hv⟩, hb⟩
  have HV := Lib.hid (own_mono hv hbel.out.size)
  replace hbel := Lib.hid (below_seq hbel.out hb)
  clear hv hb k1 BX
  go_wp2_with fail
  go_ret2
  exact ⟨⟨_, rfl, HV.out⟩, hbel.out⟩
end Go.Proofs.Ytaoebjabdejpoaa
