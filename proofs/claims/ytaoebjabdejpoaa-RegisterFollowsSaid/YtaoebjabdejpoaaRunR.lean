/- The reference's run of a register automaton. -/
import Derived.Test.YtaoebjabdejpoaaRunP
namespace Go.Proofs.Ytaoebjabdejpoaa
open Go.RowKit

set_option linter.unusedSimpArgs false
set_option maxRecDepth 100000 in
set_option maxHeartbeats 8000000 in
theorem run_r (m : Rg.M) (ws : Rg.Dw) (A B C : Option Addr) (c d e : Nat) (w : World) (hR : RdA w A B m) (hW : Rd2 w C ws) :
    Calls Try.prog 12 #[.agg #[.int .i64 m.I, .int .i64 m.S, .slice A m.rg.length c, .slice B m.tr.length d], .slice C ws.length e] w (LstP elI 1 3 (Rg.runE m ws) w) := by
  have mw := hW.1
  go_enter Try.func12, Try.ntmps12
  go_upto_region 1 with fail
  generalize hwb : World.alloc _ _ = w1
  have BX : Hid (BoxT w1 w.heap.size m A c B d) := Lib.hid (boxT (by rw [← hwb]; exact Blk.new _ _ _))
  have HBL : Hid (Below w.heap.size w w1) := Lib.hid (by rw [← hwb]; exact (Below.refl _ _).alloc (Nat.le_refl _) _)
  have HR := Lib.hid (hR.keep HBL.out)
  have HW := Lib.hid (hW.keep HBL.out)
  clear hwb hR hW
  go_wp2_with (first | (refine wpList_load_row rfl 25 _ rfl w.heap.size rfl 25 (tc m A c B d) (0, 0) _ BX.out.blk Try.underlying25 rfl (by kernel_rfl) ?_))
  refine (valid_r m A B c d w1 HR.out).mono ?_
  rintro r w2 ⟨rfl, hb⟩
  replace BX := Lib.hid (BX.out.keep hb)
  replace HBL := Lib.hid (below_seq HBL.out hb)
  replace HR := Lib.hid (HR.out.keep hb)
  replace HW := Lib.hid (HW.out.keep hb)
  clear hb w1
  by_cases hv : Rg.validE m = 0
  rotate_left
  · obtain ⟨q, hq⟩ : ∃ q, q = Rg.validE m := ⟨_, rfl⟩
    have HF := Lib.hid (show Rg.runE m ws = (q, []) by rw [hq]; exact Rg.runE_bad hv)
    rw [← hq] at hv ⊢
    have hbz : (q != 0) = true := by rw [bne_iff_ne]; exact hv
    clear hv hq
    go_wp2
    go_ret2
    exact LstP_err HF.out rfl HBL.out
  rw [hv]
  have HV := Lib.hid hv
  obtain ⟨k, s, hok⟩ := Rg.ok_of hv
  have HM := Lib.hid hok
  have h64 := hok.k64
  clear hv hok
  by_cases hl : 1024 < ws.length
  · have HF := Lib.hid (Rg.runE_long HV.out hl)
    have hl' : (1024 : Int) < (ws.length : Int) := by omega
    go_wp2
    go_ret2
    exact LstP_err HF.out rfl HBL.out
  have hl' : ¬ (1024 : Int) < (ws.length : Int) := by omega
  have c0 := BX.out.c0
  rw [HM.out.I] at c0
  have c1 := BX.out.c1
  rw [HM.out.S] at c1
  have HC0 := Lib.hid c0
  have HC1 := Lib.hid c1
  have HBX : Hid (∀ wz, Below w2.heap.size w2 wz → Blk wz w.heap.size 25 (tc m A c B d)) := Lib.hid (fun wz hz => (BX.out.keep hz).blk)
  clear c0 c1
  go_upto_region 7 with fail
  clear hl'
  go_loopw [7] (fun jv wr => ∃ j n : Nat, j ≤ ws.length ∧ jv = .int .i64 j ∧ wr = w2.drewN n ∧ Hid (∀ t, t < j → Rg.datE m.I ws t = 0)) (fun jv _ => ws.length - (intOf jv).toNat)
  case atStart => exact ⟨0, 0, Nat.zero_le _, rfl, rfl, Lib.hid (fun t ht => by omega)⟩
  case round =>
    obtain ⟨j, n, hj, rfl, rfl, HE⟩ := hrel
    by_cases hjl : j < ws.length
    · have hji : (j : Int) < (ws.length : Int) := by omega
      obtain ⟨ad, x, v, rfl, hxv, ca, cb⟩ := HW.out.at_ hjl
      have hx1 : (ws.getD j (0, 0)).1 = x := by rw [hxv]
      have HX := Lib.hid hx1
      have c0 := HC0.out
      clear hxv cb hx1
      by_cases q0 : x < 0
      · have HF := Lib.hid (Rg.runE_err HV.out hl hjl HE.out (.inl (by rw [HX.out]; exact q0)))
        have e1 : decide (x < 0) = true := decide_eq_true q0
        clear q0
        go_wp2_with fail
        go_quiet (fail)
        go_wp2
        go_ret2
        exact LstP_err HF.out rfl (below_drewN' (below_drewN' HBL.out _) _)
      have e1 : decide (x < 0) = false := decide_eq_false q0
      by_cases q1 : (k : Int) ≤ x
      · have HF := Lib.hid (Rg.runE_err HV.out hl hjl HE.out (.inr (by rw [HX.out, HM.out.I]; exact q1)))
        have e2 : decide ((k : Int) ≤ x) = true := decide_eq_true q1
        clear q0 q1
        go_wp2_with fail
        go_quiet (fail)
        go_wp2
        go_ret2
        exact LstP_err HF.out rfl (below_drewN' (below_drewN' HBL.out _) _)
      have e2 : decide ((k : Int) ≤ x) = false := decide_eq_false q1
      have HE2 : Hid (∀ t, t < j + 1 → Rg.datE m.I ws t = 0) := Lib.hid (fun t ht => by
        by_cases et : t = j
        · subst et; unfold Rg.datE; rw [HX.out, HM.out.I, if_neg (by omega)]
        · exact HE.out t (by omega))
      clear q0 q1
      go_wp2_with fail
      go_quiet (fail)
      go_wp2
      go_roundw
      case rel => exact ⟨j + 1, _, by omega, by go_num, rfl, HE2⟩
      case measure => simp [intOf] <;> omega
    obtain rfl : j = ws.length := by omega
    have HA := Lib.hid (show Mea.firstE (Rg.datE m.I ws) ws.length = 0 from Mea.firstE_zero HE.out)
    have c1 := HC1.out
    have HB : Hid (Below w2.heap.size w2 (w2.drewN n)) := Lib.hid (below_drewN' (Below.refl _ _) _)
    clear HE hjl hj
    generalize hwd : World.drewN w2 n = wr at *
    replace c1 := keep_cell HB.out c1
    clear hwd
    have KZ := Blk.new wr 70 #[.int .i64 0, .slice none 0 0, .int .i64 0]
    go_upto_region 14 with (first | (refine wpList_store_row rfl 70 _ _ rfl wr.heap.size #[.int .i64 (s : Nat), .slice none 0 0, .int .i64 0] rfl rfl 70 _ KZ (by kernel_rfl) rfl (by simp [Value.oneCell']) ?_))
    generalize hwb : World.setRow _ _ _ = w3
    have HN0 : Hid (Blk w3 wr.heap.size 70 #[.int .i64 ((Rg.stA m ws 0).1 : Nat), .slice none 0 0, .int .i64 0]) := Lib.hid (by
      have h1 : (Rg.stA m ws 0).1 = s := by show m.S.toNat = s; rw [HM.out.S]; rfl
      rw [← hwb, h1]; exact set_row_blk KZ)
    have HB0 : Hid (Below w2.heap.size w2 w3) := Lib.hid (below_seq HB.out (by rw [← hwb]; exact below_row ((Below.refl _ _).alloc (Nat.le_refl _) _) (Nat.le_refl _) _))
    have hg9 : w2.heap.size ≤ wr.heap.size := HB.out.size
    generalize wr.heap.size = g9 at *
    clear hwb KZ HB c1 wr
    go_loopw [8, 10] (fun ov jv wr => ∃ (j : Nat) (R : Value), j ≤ ws.length ∧ jv = .int .i64 j ∧ Hid (Blk wr g9 70 #[.int .i64 ((Rg.stA m ws j).1 : Nat), R, .int .i64 0]) ∧ Hid (Pr2 wr w2.heap.size R ov (Rg.stA m ws j).2 (Rg.outs m ws j)) ∧ Hid (Below w2.heap.size w2 wr)) (fun _ jv _ => ws.length - (intOf jv).toNat)
    case atStart => exact ⟨0, _, Nat.zero_le _, rfl, HN0, Lib.hid (Pr2.nil _ _), HB0⟩
    case round =>
      clear HN0 HB0
      obtain ⟨j, R0, hj, rfl, HN, HPR, HB⟩ := hrel
      clear w3
      rename World => wy
      obtain ⟨V, vc, hVs⟩ := own_slice HPR.out.o
      rw [Rg.outs_len] at hVs
      subst hVs
      by_cases hjl : j < ws.length
      rotate_left
      · obtain rfl : j = ws.length := by omega
        have HF := Lib.hid (Rg.runE_ok HV.out hl HA.out)
        go_wp2
        go_ret2
        exact LstP_ok HF.out rfl (own_mono HPR.out.o HBL.out.size) (below_seq HBL.out HB.out)
      have hji : (j : Int) < (ws.length : Int) := by omega
      obtain ⟨ad, x, v, rfl, hxv, ca, cb⟩ := HW.out.at_ hjl
      have hd := Rg.dat_no (Mea.firstE_of_zero HA.out j hjl)
      rw [hxv, HM.out.I] at hd
      obtain ⟨a, rfl⟩ : ∃ n : Nat, x = n := ⟨x.toNat, by omega⟩
      have hak : a < k := by omega
      have cay := keep_cell HB.out ca
      have cby := cell_fld (keep_cell HB.out cb) (by decide)
      have HOK := Lib.hid (Rg.stA_ok HM.out HA.out j hj)
      have hs1 : Rg.stA m ws (j + 1) = Rg.nxt m (Rg.stA m ws j) a v := by show Rg.nxt m (Rg.stA m ws j) (ws.getD j (0, 0)).1.toNat (ws.getD j (0, 0)).2 = _; rw [hxv, Int.toNat_natCast]
      have ho1 : Rg.outA m ws j = (Rg.tOf m (Rg.stA m ws j) a v).out := by unfold Rg.outA; rw [hxv, Int.toNat_natCast]
      obtain ⟨⟨l, r⟩, hst⟩ : ∃ st, st = Rg.stA m ws j := ⟨_, rfl⟩
      rw [← hst] at HN HPR HOK hs1 ho1
      obtain ⟨ov, hov⟩ : ∃ ov, ov = (Rg.tOf m (l, r) a v).out := ⟨_, rfl⟩
      obtain ⟨⟨l1, r1⟩, hn1⟩ : ∃ st, st = Rg.nxt m (l, r) a v := ⟨_, rfl⟩
      rw [← hov] at ho1
      rw [← hn1] at hs1
      have HST1 := Lib.hid hs1
      have HOU : Hid (Rg.outs m ws (j + 1) = Rg.outs m ws j ++ [ov]) := Lib.hid (by rw [Rg.outs_succ, ho1])
      have HNX := Lib.hid (And.intro hn1 hov)
      have hrl : r.length ≤ 4 := HOK.out.r4 HM.out
      obtain ⟨R, rc, hRs⟩ := own_slice HPR.out.n
      replace hRs : R0 = .slice R r.length rc := hRs
      subst hRs
      have HRR := Lib.hid (own_rdi HPR.out.n (by show r.length ≤ _; omega)).2
      replace HRR : Hid (Rd wy R r) := HRR
      have hsz : w2.heap.size ≤ wy.heap.size := HB.out.size
      have hon : (Rg.outs m ws j).length ≤ 1099511627776 := by rw [Rg.outs_len]; omega
      clear hxv ca cb hd hs1 ho1 hst hn1 hov
      go_upto_region 16 with fail
      go_cut [11, 12] (fun p o wx => ∃ (R1 : Option Addr) (rc1 g11 : Nat), p = .pointer (some ⟨g11, 0, none⟩) ∧ o = .int .i64 ov ∧ Blk wx g11 70 #[.int .i64 (l1 : Nat), .slice R1 r1.length rc1, .int .i64 0] ∧ OwnL elI 1 wx wy.heap.size 3 (.slice R1 r1.length rc1) r1 ∧ wy.heap.size ≤ g11 ∧ Below wy.heap.size wy wx)
      case first =>
        refine wp_region_held_drew (S := fun wx => Below wy.heap.size wy wx) (by kernel_rfl) ((Below.refl _ _).drew) (fun hS => ?_)
        refine takeH (i := 0) (d := some 53) (v := .agg #[.int .i64 m.I, .int .i64 m.S, .slice A m.rg.length c, .slice B m.tr.length d]) rfl rfl (by kernel_rfl) (by kernel_rfl) (by kernel_rfl) (fun _ _ _ h => h) (yieldsIf_load_any (by rfl) 25 _ rfl ⟨w.heap.size, 0, none⟩ rfl [.int .i64 m.I, .int .i64 m.S, .slice A m.rg.length c, .slice B m.tr.length d] _ (fun wx hSx => ((HBX.out wx (HB.out.trans (Below.mono hSx hsz))).part 0 _ rfl)) Try.underlying25 rfl (by kernel_rfl)) hS ?_
        simp only [Act.put, List.setIfInBounds_toArray, List.set_cons_zero, List.set_cons_succ]
        refine takeH (i := 1) (d := some 54) (v := .agg #[.int .i64 (l : Nat), .slice R r.length rc, .int .i64 0]) rfl rfl (by kernel_rfl) (by kernel_rfl) (by kernel_rfl) (fun _ _ _ h => h) (yieldsIf_load_any (by rfl) 70 _ rfl ⟨g9, 0, none⟩ rfl [.int .i64 (l : Nat), .slice R r.length rc, .int .i64 0] _ (fun wx hSx => ((HN.out.keep hSx).part 0 _ rfl)) Try.underlying70 rfl (by kernel_rfl)) hS ?_
        simp only [Act.put, List.setIfInBounds_toArray, List.set_cons_zero, List.set_cons_succ]
        refine takeH (i := 2) (d := some 55) (v := ?_) rfl rfl (by kernel_rfl) (by kernel_rfl) (by kernel_rfl) (fun _ _ _ h => h) (Or.inl ⟨by rfl, ?_⟩) hS ?_
        rotate_left
        · intro wx hSx; clear hSx; first | (go_simp; done) | (go_simp; with_reducible rfl)
        simp only [Act.put, List.setIfInBounds_toArray, List.set_cons_zero, List.set_cons_succ]
        refine takeH (i := 3) (d := some 56) (v := ?_) rfl rfl (by kernel_rfl) (by kernel_rfl) (by kernel_rfl) (fun _ _ _ h => h) (Or.inl ⟨by rfl, ?_⟩) hS ?_
        rotate_left
        · intro wx hSx; clear hSx; first | (go_simp; done) | (go_simp; with_reducible rfl)
        simp only [Act.put, List.setIfInBounds_toArray, List.set_cons_zero, List.set_cons_succ]
        refine takeH (i := 4) (d := some 57) (v := ?_) rfl rfl (by kernel_rfl) (by kernel_rfl) (by kernel_rfl) (fun _ _ _ h => h) (Or.inl ⟨by rfl, ?_⟩) hS ?_
        rotate_left
        · intro wx hSx; clear hSx; first | (go_simp; done) | (go_simp; with_reducible rfl)
        simp only [Act.put, List.setIfInBounds_toArray, List.set_cons_zero, List.set_cons_succ]
        refine takeH (i := 5) (d := some 58) (v := ?_) rfl rfl (by kernel_rfl) (by kernel_rfl) (by kernel_rfl) (fun _ _ _ h => h) (Or.inl ⟨by rfl, ?_⟩) hS ?_
        rotate_left
        · intro wx hSx; clear hSx; first | (go_simp; done) | (go_simp; with_reducible rfl)
        simp only [Act.put, List.setIfInBounds_toArray, List.set_cons_zero, List.set_cons_succ]
        refine takeH (i := 6) (d := some 59) (v := ?_) rfl rfl (by kernel_rfl) (by kernel_rfl) (by kernel_rfl) (fun _ _ _ h => h) (Or.inl ⟨by rfl, ?_⟩) hS ?_
        rotate_left
        · intro wx hSx; have hSy : Below wy.heap.size wy wx := hSx; have e0 := keep_cell hSy cay; have e1 := keep_cell hSy cby; clear hSy hSx; first | (go_simp; done) | (go_simp; with_reducible rfl)
        simp only [Act.put, List.setIfInBounds_toArray, List.set_cons_zero, List.set_cons_succ]
        refine takeH (i := 7) (d := some 60) (v := ?_) rfl rfl (by kernel_rfl) (by kernel_rfl) (by kernel_rfl) (fun _ _ _ h => h) (Or.inl ⟨by rfl, ?_⟩) hS ?_
        rotate_left
        · intro wx hSx; clear hSx; first | (go_simp; done) | (go_simp; with_reducible rfl)
        simp only [Act.put, List.setIfInBounds_toArray, List.set_cons_zero, List.set_cons_succ]
        refine takeH (i := 8) (d := some 61) (v := ?_) rfl rfl (by kernel_rfl) (by kernel_rfl) (by kernel_rfl) (fun _ _ _ h => h) (Or.inl ⟨by rfl, ?_⟩) hS ?_
        rotate_left
        · intro wx hSx; clear hSx; first | (go_simp; done) | (go_simp; with_reducible rfl)
        simp only [Act.put, List.setIfInBounds_toArray, List.set_cons_zero, List.set_cons_succ]
        refine takeH (i := 9) (d := some 62) (v := ?_) rfl rfl (by kernel_rfl) (by kernel_rfl) (by kernel_rfl) (fun _ _ _ h => h) (Or.inl ⟨by rfl, ?_⟩) hS ?_
        rotate_left
        · intro wx hSx; clear hSx; first | (go_simp; done) | (go_simp; with_reducible rfl)
        simp only [Act.put, List.setIfInBounds_toArray, List.set_cons_zero, List.set_cons_succ]
        refine takeH (i := 10) (d := some 63) (v := ?_) rfl rfl (by kernel_rfl) (by kernel_rfl) (by kernel_rfl) (fun _ _ _ h => h) (Or.inl ⟨by rfl, ?_⟩) hS ?_
        rotate_left
        · intro wx hSx; clear hSx; first | (go_simp; done) | (go_simp; with_reducible rfl)
        simp only [Act.put, List.setIfInBounds_toArray, List.set_cons_zero, List.set_cons_succ]
        refine takeH (i := 11) (d := some 64) (v := ?_) rfl rfl (by kernel_rfl) (by kernel_rfl) (by kernel_rfl) (fun _ _ _ h => h) (Or.inl ⟨by rfl, ?_⟩) hS ?_
        rotate_left
        · intro wx hSx; have hSy : Below wy.heap.size wy wx := hSx; have e0 := keep_cell hSy cay; have e1 := keep_cell hSy cby; clear hSy hSx; first | (go_simp; done) | (go_simp; with_reducible rfl)
        simp only [Act.put, List.setIfInBounds_toArray, List.set_cons_zero, List.set_cons_succ]
        generalize hwa : World.drew _ = wa at hS ⊢
        clear hwa
        have HSa := Lib.hid hS
        clear hS
        refine wpAnyH_ready (rs := [12, 16]) (by kernel_rfl) (by simp) ?_
        refine AllReadyH.cons rfl (fun K hK => ?_) (AllReadyH.cons rfl (fun K hK => ?_) AllReadyH.nil)
        · skip
          rw [if_pos (by rfl)]
          try go_simp
          refine (step_r m k s l r a v 0 A B R c d rc wa HM.out HOK.out hak (HR.out.keep (below_seq HB.out HSa.out)) (HRR.out.keep HSa.out)).mono ?_
          rintro qq wv ⟨⟨u1, rfl, hu1⟩, hb⟩
          rw [← HNX.out.1] at hu1
          rw [← HNX.out.1, ← HNX.out.2]
          replace hu1 : OwnL elI 1 wv wa.heap.size 3 u1 r1 := hu1
          obtain ⟨R1, rc1, hR1⟩ := own_slice hu1
          subst hR1
          have HU1 := Lib.hid (own_mono hu1 HSa.out.size)
          refine hK.out _ _ (below_seq HSa.out hb) (fun hS2 => ?_)
          clear hK K
          try simp only [Act.put, List.setIfInBounds_toArray, List.set_cons_zero, List.set_cons_succ]
          replace HSa := Lib.hid hS2
          clear hS2 hb hu1 wa
          rename World => wa
          refine takeH (i := 13) (d := some 52) (v := ?_) rfl rfl (by kernel_rfl) (by kernel_rfl) (by kernel_rfl) (fun _ _ _ h => h) (Or.inl ⟨by rfl, ?_⟩) HSa.out ?_
          rotate_left
          · intro wx hSx; clear hSx; first | (go_simp; done) | (go_simp; with_reducible rfl)
          simp only [Act.put, List.setIfInBounds_toArray, List.set_cons_zero, List.set_cons_succ]
          refine takeH (i := 14) (d := some 66) (v := ?_) rfl rfl (by kernel_rfl) (by kernel_rfl) (by kernel_rfl) (fun _ _ _ h => h) (Or.inl ⟨by rfl, ?_⟩) HSa.out ?_
          rotate_left
          · intro wx hSx; clear hSx; first | (go_simp; done) | (go_simp; with_reducible rfl)
          simp only [Act.put, List.setIfInBounds_toArray, List.set_cons_zero, List.set_cons_succ]
          refine takeH (i := 15) (d := some 67) (v := ?_) rfl rfl (by kernel_rfl) (by kernel_rfl) (by kernel_rfl) (fun _ _ _ h => h) (Or.inl ⟨by rfl, ?_⟩) HSa.out ?_
          rotate_left
          · intro wx hSx; clear hSx; first | (go_simp; done) | (go_simp; with_reducible rfl)
          simp only [Act.put, List.setIfInBounds_toArray, List.set_cons_zero, List.set_cons_succ]
          refine wpAnyH_ready (rs := [16]) (by kernel_rfl) (by simp) ?_
          refine AllReadyH.cons rfl (fun K hK => ?_) AllReadyH.nil
          rw [if_pos (by rfl)]
          go_simp
          refine hK.out _ _ (Below.alloc HSa.out HSa.out.size _) (fun hS2 => ?_)
          clear hK K
          try simp only [Act.put, List.setIfInBounds_toArray, List.set_cons_zero, List.set_cons_succ]
          generalize hwb : World.alloc _ _ = wb at hS2 ⊢
          have hal : Below wa.heap.size wa wb := by rw [← hwb]; exact (Below.refl _ _).alloc (Nat.le_refl _) _
          replace HU1 := Lib.hid (own_keep HU1.out hal)
          have K11 : Hid (Blk wb wa.heap.size 70 #[.int .i64 0, .slice none 0 0, .int .i64 0]) := Lib.hid (by rw [← hwb]; exact Blk.new _ _ _)
          have hge11 : wy.heap.size ≤ wa.heap.size := HSa.out.size
          replace HSa := Lib.hid hS2
          generalize wa.heap.size = k11 at *
          clear hS2 hwb hal wa
          rename World => wa
          refine wpAnyH_ready (rs := [17]) (by kernel_rfl) (by simp) ?_
          refine AllReadyH.cons rfl (fun K hK => ?_) AllReadyH.nil
          rw [if_pos (by rfl)]
          refine wp_store_row 70 _ _ rfl k11 #[.int .i64 (l1 : Nat), .slice R1 r1.length rc1, .int .i64 0] rfl rfl 70 _ K11.out (by kernel_rfl) rfl (by simp [Value.oneCell']) ?_
          refine hK.out _ _ (below_row HSa.out hge11 _) (fun hS2 => ?_)
          clear hK K
          change wpAnyH _ _ _ _ _ _ _ (Act.put _ none _) _
          try simp only [Act.put]
          generalize hwb : World.setRow _ _ _ = wb at hS2 ⊢
          have K11b : Hid (Blk wb k11 70 #[.int .i64 (l1 : Nat), .slice R1 r1.length rc1, .int .i64 0]) := Lib.hid (by rw [← hwb]; exact set_row_blk K11.out)
          replace HU1 : Hid (OwnL elI 1 wb wy.heap.size 3 (.slice R1 r1.length rc1) r1) := Lib.hid (own_kt (bad := isT 70) HU1.out (by rw [← hwb]; exact Kt.row K11.out.isT_) (isT_ne (by decide)))
          replace HSa := Lib.hid hS2
          clear hS2 hwb K11 wa
          rename World => wa
          refine takeH (i := 18) (d := some 12) (v := ?_) rfl rfl (by kernel_rfl) (by kernel_rfl) (by kernel_rfl) (fun _ _ _ h => h) (Or.inl ⟨by rfl, ?_⟩) HSa.out ?_
          rotate_left
          · intro wx hSx; clear hSx; first | (go_simp; done) | (go_simp; with_reducible rfl)
          simp only [Act.put, List.setIfInBounds_toArray, List.set_cons_zero, List.set_cons_succ]
          refine wpAnyH_done (by kernel_rfl) ?_ _
          go_wp2_with fail
          go_meet
          exact ⟨R1, rc1, k11, rfl, rfl, K11b.out, HU1.out, hge11, HSa.out⟩
        · skip
          rw [if_pos (by rfl)]
          go_simp
          refine hK.out _ _ (Below.alloc HSa.out HSa.out.size _) (fun hS2 => ?_)
          clear hK K
          try simp only [Act.put, List.setIfInBounds_toArray, List.set_cons_zero, List.set_cons_succ]
          generalize hwb : World.alloc _ _ = wb at hS2 ⊢
          have hal : Below wa.heap.size wa wb := by rw [← hwb]; exact (Below.refl _ _).alloc (Nat.le_refl _) _
          have K11 : Hid (Blk wb wa.heap.size 70 #[.int .i64 0, .slice none 0 0, .int .i64 0]) := Lib.hid (by rw [← hwb]; exact Blk.new _ _ _)
          have hge11 : wy.heap.size ≤ wa.heap.size := HSa.out.size
          replace HSa := Lib.hid hS2
          generalize wa.heap.size = k11 at *
          clear hS2 hwb hal wa
          rename World => wa
          refine wpAnyH_ready (rs := [12]) (by kernel_rfl) (by simp) ?_
          refine AllReadyH.cons rfl (fun K hK => ?_) AllReadyH.nil
          rw [if_pos (by rfl)]
          try go_simp
          refine (step_r m k s l r a v 0 A B R c d rc wa HM.out HOK.out hak (HR.out.keep (below_seq HB.out HSa.out)) (HRR.out.keep HSa.out)).mono ?_
          rintro qq wv ⟨⟨u1, rfl, hu1⟩, hb⟩
          rw [← HNX.out.1] at hu1
          rw [← HNX.out.1, ← HNX.out.2]
          replace hu1 : OwnL elI 1 wv wa.heap.size 3 u1 r1 := hu1
          obtain ⟨R1, rc1, hR1⟩ := own_slice hu1
          subst hR1
          have HU1 := Lib.hid (own_mono hu1 HSa.out.size)
          refine hK.out _ _ (below_seq HSa.out hb) (fun hS2 => ?_)
          clear hK K
          try simp only [Act.put, List.setIfInBounds_toArray, List.set_cons_zero, List.set_cons_succ]
          replace K11 := Lib.hid (K11.out.keep hb)
          replace HSa := Lib.hid hS2
          clear hS2 hb hu1 wa
          rename World => wa
          refine takeH (i := 13) (d := some 52) (v := ?_) rfl rfl (by kernel_rfl) (by kernel_rfl) (by kernel_rfl) (fun _ _ _ h => h) (Or.inl ⟨by rfl, ?_⟩) HSa.out ?_
          rotate_left
          · intro wx hSx; clear hSx; first | (go_simp; done) | (go_simp; with_reducible rfl)
          simp only [Act.put, List.setIfInBounds_toArray, List.set_cons_zero, List.set_cons_succ]
          refine takeH (i := 14) (d := some 66) (v := ?_) rfl rfl (by kernel_rfl) (by kernel_rfl) (by kernel_rfl) (fun _ _ _ h => h) (Or.inl ⟨by rfl, ?_⟩) HSa.out ?_
          rotate_left
          · intro wx hSx; clear hSx; first | (go_simp; done) | (go_simp; with_reducible rfl)
          simp only [Act.put, List.setIfInBounds_toArray, List.set_cons_zero, List.set_cons_succ]
          refine takeH (i := 15) (d := some 67) (v := ?_) rfl rfl (by kernel_rfl) (by kernel_rfl) (by kernel_rfl) (fun _ _ _ h => h) (Or.inl ⟨by rfl, ?_⟩) HSa.out ?_
          rotate_left
          · intro wx hSx; clear hSx; first | (go_simp; done) | (go_simp; with_reducible rfl)
          simp only [Act.put, List.setIfInBounds_toArray, List.set_cons_zero, List.set_cons_succ]
          refine wpAnyH_ready (rs := [17]) (by kernel_rfl) (by simp) ?_
          refine AllReadyH.cons rfl (fun K hK => ?_) AllReadyH.nil
          rw [if_pos (by rfl)]
          refine wp_store_row 70 _ _ rfl k11 #[.int .i64 (l1 : Nat), .slice R1 r1.length rc1, .int .i64 0] rfl rfl 70 _ K11.out (by kernel_rfl) rfl (by simp [Value.oneCell']) ?_
          refine hK.out _ _ (below_row HSa.out hge11 _) (fun hS2 => ?_)
          clear hK K
          change wpAnyH _ _ _ _ _ _ _ (Act.put _ none _) _
          try simp only [Act.put]
          generalize hwb : World.setRow _ _ _ = wb at hS2 ⊢
          have K11b : Hid (Blk wb k11 70 #[.int .i64 (l1 : Nat), .slice R1 r1.length rc1, .int .i64 0]) := Lib.hid (by rw [← hwb]; exact set_row_blk K11.out)
          replace HU1 : Hid (OwnL elI 1 wb wy.heap.size 3 (.slice R1 r1.length rc1) r1) := Lib.hid (own_kt (bad := isT 70) HU1.out (by rw [← hwb]; exact Kt.row K11.out.isT_) (isT_ne (by decide)))
          replace HSa := Lib.hid hS2
          clear hS2 hwb K11 wa
          rename World => wa
          refine takeH (i := 18) (d := some 12) (v := ?_) rfl rfl (by kernel_rfl) (by kernel_rfl) (by kernel_rfl) (fun _ _ _ h => h) (Or.inl ⟨by rfl, ?_⟩) HSa.out ?_
          rotate_left
          · intro wx hSx; clear hSx; first | (go_simp; done) | (go_simp; with_reducible rfl)
          simp only [Act.put, List.setIfInBounds_toArray, List.set_cons_zero, List.set_cons_succ]
          refine wpAnyH_done (by kernel_rfl) ?_ _
          go_wp2_with fail
          go_meet
          exact ⟨R1, rc1, k11, rfl, rfl, K11b.out, HU1.out, hge11, HSa.out⟩
      case rest =>
      obtain ⟨R1, rc1, g11, rfl, rfl, hk11, hu1, hg11, hbx⟩ := hcut
      rename World => wu
      try apply_assumption
      have HOu := own_keep HPR.out.o hbx
      have HP1 : Hid (Pr2 wu w2.heap.size (.slice R1 r1.length rc1) (.slice V j vc) r1 (Rg.outs m ws j)) := Lib.hid ⟨own_mono hu1 hsz, HOu, fun g h1 h2 => by
        have h3 := (World.ownsRow.lt hu1 g h1).1
        have h4 := (World.ownsRow.lt HPR.out.o g h2).2
        omega⟩
      have K11 := Lib.hid hk11
      have HN1 := Lib.hid (HN.out.keep hbx)
      have hne : g9 ≠ g11 := by have := HN.out.lt; omega
      replace HB := Lib.hid (below_seq HB.out hbx)
      have hszu : w2.heap.size ≤ wu.heap.size := HB.out.size
      generalize wy.heap.size = gy at *
      clear hbx hk11 hu1 HOu HN HPR HRR cay cby hsz wy
      go_upto_region 18 with (first | (at_builtin; refine appL elI_len (by decide) rfl (.tmp 68) (.tmp 70) 22 3 _ _ rfl Try.underlying22 infoI rfl (by decide) (y := ov) rfl rfl rfl rfl HP1.out.o elI_one hon hszu ?_; intro v7 w7 ho7 hg7 hl7 hbb7 hbs7))
      have hk1 := app_kt HP1.out.o hg7
      have HP2 := HP1.out.pushO ho7 hg7 hl7
      have K12 := Lib.hid (blk_kt K11.out hk1 (isT_ne (by decide)))
      have HN2 := Lib.hid (blk_kt HN1.out hk1 (isT_ne (by decide)))
      have HB2 := hbb7 w2.heap.size w2 (Nat.le_refl _) HB.out
      have k12 := K12.out
      have n2 := HN2.out
      clear hk1 ho7 hg7 hl7 hbb7 hbs7 HP1 K11 HN1 HB
      go_upto_region 15 with (first | (refine wpList_load_row rfl 70 _ rfl g11 rfl 70 (#[.int .i64 (l1 : Nat), .slice R1 r1.length rc1, .int .i64 0]) (0, 0) _ k12 Try.underlying70 rfl (by kernel_rfl) ?_) | (refine wpList_store_row rfl 70 _ _ rfl g9 #[.int .i64 (l1 : Nat), .slice R1 r1.length rc1, .int .i64 0] rfl rfl 70 _ n2 (by kernel_rfl) rfl (by simp [Value.oneCell']) ?_))
      generalize hwb : World.setRow _ _ _ = wb
      have HN3 : Hid (Blk wb g9 70 #[.int .i64 ((Rg.stA m ws (j + 1)).1 : Nat), .slice R1 r1.length rc1, .int .i64 0]) := Lib.hid (by rw [← hwb, HST1.out]; exact set_row_blk n2)
      have HP3 : Hid (Pr2 wb w2.heap.size (.slice R1 r1.length rc1) v7 (Rg.stA m ws (j + 1)).2 (Rg.outs m ws (j + 1))) := Lib.hid (by rw [HOU.out, HST1.out]; exact HP2.kt (bad := isT 70) (by rw [← hwb]; exact Kt.row n2.isT_) (isT_ne (by decide)))
      have HB3 : Hid (Below w2.heap.size w2 wb) := Lib.hid (by rw [← hwb]; exact below_row HB2 hg9 _)
      clear hwb k12 n2 HP2 HB2 K12 HN2
      go_wp2_with fail
      go_roundw
      case rel => exact ⟨j + 1, _, by omega, by go_num, HN3, HP3, HB3⟩
      case measure => simp [intOf] <;> omega
end Go.Proofs.Ytaoebjabdejpoaa
