/- The code's run of a register automaton. -/
import Derived.Test.YtaoebjabdejpoaaDat
import Derived.Test.YtaoebjabdejpoaaVal
import Derived.Test.YtaoebjabdejpoaaStep
namespace Go.Proofs.Ytaoebjabdejpoaa
open Go.RowKit

namespace Rg
theorem runE_bad {m : M} {w : Dw} (h : validE m ≠ 0) : runE m w = (validE m, []) := by unfold runE; rw [if_pos h]
theorem runE_long {m : M} {w : Dw} (h : validE m = 0) (h1 : 1024 < w.length) : runE m w = (3, []) := by unfold runE; rw [if_neg (by omega), if_pos h1]
theorem runE_err {m : M} {w : Dw} (h : validE m = 0) (h1 : ¬ 1024 < w.length) {i : Nat} (hi : i < w.length) (h2 : ∀ t, t < i → datE m.I w t = 0) (he : (w.getD i (0, 0)).1 < 0 ∨ m.I ≤ (w.getD i (0, 0)).1) : runE m w = (1, []) := by
  have hd : datE m.I w i = 1 := by unfold datE; rw [if_pos he]
  have hf := (Mea.firstE_at h2 (by rw [hd]; decide) hi).trans hd
  unfold runE; rw [if_neg (by omega), if_neg h1, hf, if_pos (by decide)]
theorem runE_ok {m : M} {w : Dw} (h : validE m = 0) (h1 : ¬ 1024 < w.length) (h2 : Mea.firstE (datE m.I w) w.length = 0) : runE m w = (0, outs m w w.length) := by
  unfold runE; rw [if_neg (by omega), if_neg h1, h2, if_neg (by simp)]
end Rg
theorem app_kt {w w' : World} {base e size n : Nat} {v : Value} {xs : List Value} {o : Obj} (h : w.ownsRow base e size v n xs) (hg : (w.alloc o).grownBy w' v.ownBlock) : Kt (isT e) w w' :=
  (Kt.below ((Below.refl _ _).alloc (Nat.le_refl _) _)).trans (Kt.grown hg (own_bad (h.alloc o)))
set_option linter.unusedSimpArgs false
set_option maxRecDepth 100000 in
set_option maxHeartbeats 8000000 in
theorem run_p (m : Rg.M) (ws : Rg.Dw) (A B C : Option Addr) (c d e : Nat) (w : World) (hR : RdA w A B m) (hW : Rd2 w C ws) :
    Calls Try.prog 11 #[.agg #[.int .i64 m.I, .int .i64 m.S, .slice A m.rg.length c, .slice B m.tr.length d], .slice C ws.length e] w (LstP elI 1 3 (Rg.runE m ws) w) := by
  have mw := hW.1
  go_enter Try.func11, Try.ntmps11
  go_upto_region 1 with fail
  generalize hwb : World.alloc _ _ = w1
  have BX : Hid (BoxT w1 w.heap.size m A c B d) := Lib.hid (boxT (by rw [← hwb]; exact Blk.new _ _ _))
  have HBL : Hid (Below w.heap.size w w1) := Lib.hid (by rw [← hwb]; exact (Below.refl _ _).alloc (Nat.le_refl _) _)
  have HR := Lib.hid (hR.keep HBL.out)
  have HW := Lib.hid (hW.keep HBL.out)
  clear hwb hR hW
  go_wp2_with (first | (refine wpList_load_row rfl 25 _ rfl w.heap.size rfl 25 (tc m A c B d) (0, 0) _ BX.out.blk Try.underlying25 rfl (by kernel_rfl) ?_))
  refine (valid_p m A B c d w1 HR.out).mono ?_
  rintro r w2 ⟨rfl, hb⟩
  replace BX := Lib.hid (BX.out.keep hb)
  replace HBL := Lib.hid (below_seq HBL.out hb)
  replace HR := Lib.hid (HR.out.keep hb)
  replace HW := Lib.hid (HW.out.keep hb)
  clear hb w1
  by_cases hv : Rg.validE m = 0
  rotate_left
  · obtain ⟨q, hq⟩ : ∃ q, q = Rg.validE m := ⟨_, rfl⟩
    have HF := Lib.hid (show Rg.runE m ws = (q, []) by rw [hq]; exact Rg.runE_bad hv)
    rw [← hq] at hv ⊢
    have hbz : (q != 0) = true := by rw [bne_iff_ne]; exact hv
    clear hv hq
    go_wp2
    go_ret2
    exact LstP_err HF.out rfl HBL.out
  rw [hv]
  have HV := Lib.hid hv
  obtain ⟨k, s, hok⟩ := Rg.ok_of hv
  have HM := Lib.hid hok
  have h64 := hok.k64
  clear hv hok
  by_cases hl : 1024 < ws.length
  · have HF := Lib.hid (Rg.runE_long HV.out hl)
    have hl' : (1024 : Int) < (ws.length : Int) := by omega
    go_wp2
    go_ret2
    exact LstP_err HF.out rfl HBL.out
  have hl' : ¬ (1024 : Int) < (ws.length : Int) := by omega
  have c0 := BX.out.c0
  rw [HM.out.I] at c0
  have c1 := BX.out.c1
  rw [HM.out.S] at c1
  have HC0 := Lib.hid c0
  have HC1 := Lib.hid c1
  have HBX : Hid (∀ wz, Below w2.heap.size w2 wz → Blk wz w.heap.size 25 (tc m A c B d)) := Lib.hid (fun wz hz => (BX.out.keep hz).blk)
  clear c0 c1
  go_upto_region 7 with fail
  clear hl'
  go_loopw [27] (fun jv wr => ∃ j : Nat, j ≤ ws.length ∧ jv = .int .i64 j ∧ Hid (Below w2.heap.size w2 wr) ∧ Hid (∀ t, t < j → Rg.datE m.I ws t = 0)) (fun jv _ => ws.length - (intOf jv).toNat)
  case atStart => exact ⟨0, Nat.zero_le _, rfl, Lib.hid (Below.refl _ _), Lib.hid (fun t ht => by omega)⟩
  case round =>
    obtain ⟨j, hj, rfl, HB, HE⟩ := hrel
    rename World => wr
    by_cases hjl : j < ws.length
    · have hji : (j : Int) < (ws.length : Int) := by omega
      obtain ⟨ad, x, v, rfl, hxv, ca, cb⟩ := HW.out.at_ hjl
      have hcc := cells2' (keep_cell HB.out ca) (keep_cell HB.out cb)
      have hx1 : (ws.getD j (0, 0)).1 = x := by rw [hxv]
      have HX := Lib.hid hx1
      clear hxv ca cb hx1
      go_upto_region 9 with (refine wpList_load_any rfl 63 _ rfl (ad.add (j * 2)) rfl [.int .i64 x, .int .i64 v] _ hcc Try.underlying63 rfl (by kernel_rfl) ?_)
      generalize hwb : World.alloc _ _ = wy
      have KD : Hid (Blk wy wr.heap.size 63 #[.int .i64 x, .int .i64 v]) := Lib.hid (by rw [← hwb]; exact Blk.new _ _ _)
      have hal : Below wr.heap.size wr wy := by rw [← hwb]; exact (Below.refl _ _).alloc (Nat.le_refl _) _
      replace HB := Lib.hid (below_seq HB.out hal)
      have k0 := KD.out.cell 0
      have c0 := keep_cell HB.out HC0.out
      generalize wr.heap.size = gk at *
      clear hwb hal hcc KD wr
      by_cases q0 : x < 0
      · have HF := Lib.hid (Rg.runE_err HV.out hl hjl HE.out (.inl (by rw [HX.out]; exact q0)))
        have e1 : decide (x < 0) = true := decide_eq_true q0
        clear q0
        go_wp2
        go_ret2
        exact LstP_err HF.out rfl (below_seq HBL.out HB.out)
      have e1 : decide (x < 0) = false := decide_eq_false q0
      by_cases q1 : (k : Int) ≤ x
      · have HF := Lib.hid (Rg.runE_err HV.out hl hjl HE.out (.inr (by rw [HX.out, HM.out.I]; exact q1)))
        have e2 : decide ((k : Int) ≤ x) = true := decide_eq_true q1
        clear q0 q1
        go_wp2
        go_ret2
        exact LstP_err HF.out rfl (below_seq HBL.out HB.out)
      have e2 : decide ((k : Int) ≤ x) = false := decide_eq_false q1
      have HE2 : Hid (∀ t, t < j + 1 → Rg.datE m.I ws t = 0) := Lib.hid (fun t ht => by
        by_cases et : t = j
        · subst et; unfold Rg.datE; rw [HX.out, HM.out.I, if_neg (by omega)]
        · exact HE.out t (by omega))
      clear q0 q1
      go_wp2
      go_roundw
      case rel => exact ⟨j + 1, by omega, by go_num, HB, HE2⟩
      case measure => simp [intOf] <;> omega
    obtain rfl : j = ws.length := by omega
    have HA := Lib.hid (show Mea.firstE (Rg.datE m.I ws) ws.length = 0 from Mea.firstE_zero HE.out)
    have c1 := keep_cell HB.out HC1.out
    clear HE hjl hj
    have KZ := Blk.new wr 66 (pcs [])
    go_upto_region 15 with (first | (refine wpList_store_row rfl 66 _ _ rfl wr.heap.size (pcs []) rfl rfl 66 _ KZ (by kernel_rfl) rfl (pcs_one _) ?_))
    generalize hwb : World.setRow _ _ _ = w3
    have HN0 : Hid (Blk w3 wr.heap.size 66 (pcs (Rg.stA m ws 0).2)) := Lib.hid (by rw [← hwb]; exact set_row_blk KZ)
    have HB0 : Hid (Below w2.heap.size w2 w3) := Lib.hid (below_seq HB.out (by rw [← hwb]; exact below_row ((Below.refl _ _).alloc (Nat.le_refl _) _) (Nat.le_refl _) _))
    have hg11 : w2.heap.size ≤ wr.heap.size := HB.out.size
    have HS0 := Lib.hid (show ((Rg.stA m ws 0).1 : Int) = (s : Int) by show ((m.S.toNat : Nat) : Int) = _; rw [HM.out.S]; rfl)
    generalize wr.heap.size = g11 at *
    clear hwb KZ HB c1 wr
    go_loopw [9, 10, 47] (fun ov lv jv wr => ∃ j : Nat, j ≤ ws.length ∧ jv = .int .i64 j ∧ lv = .int .i64 ((Rg.stA m ws j).1 : Nat) ∧ Hid (Blk wr g11 66 (pcs (Rg.stA m ws j).2)) ∧ Hid (OwnL elI 1 wr w2.heap.size 3 ov (Rg.outs m ws j)) ∧ Hid (Below w2.heap.size w2 wr)) (fun _ _ jv _ => ws.length - (intOf jv).toNat)
    case atStart => exact ⟨0, Nat.zero_le _, rfl, by rw [HS0.out], HN0, Lib.hid (World.ownsRow_nil _ _ _ _), HB0⟩
    case round =>
      clear HN0 HB0 HS0
      obtain ⟨j, hj, rfl, rfl, HN, HO, HB⟩ := hrel
      clear w3
      rename World => wr
      obtain ⟨V, vc, hVs⟩ := own_slice HO.out
      rw [Rg.outs_len] at hVs
      subst hVs
      by_cases hjl : j < ws.length
      rotate_left
      · obtain rfl : j = ws.length := by omega
        have HF := Lib.hid (Rg.runE_ok HV.out hl HA.out)
        go_wp2
        go_ret2
        exact LstP_ok HF.out rfl (own_mono HO.out HBL.out.size) (below_seq HBL.out HB.out)
      have hji : (j : Int) < (ws.length : Int) := by omega
      obtain ⟨ad, x, v, rfl, hxv, ca, cb⟩ := HW.out.at_ hjl
      have hcc := cells2' (keep_cell HB.out ca) (keep_cell HB.out cb)
      have hd := Rg.dat_no (Mea.firstE_of_zero HA.out j hjl)
      rw [hxv, HM.out.I] at hd
      obtain ⟨a, rfl⟩ : ∃ n : Nat, x = n := ⟨x.toNat, by omega⟩
      have hak : a < k := by omega
      have HOK := Lib.hid (Rg.stA_ok HM.out HA.out j hj)
      have hs1 : Rg.stA m ws (j + 1) = Rg.nxt m (Rg.stA m ws j) a v := by show Rg.nxt m (Rg.stA m ws j) (ws.getD j (0, 0)).1.toNat (ws.getD j (0, 0)).2 = _; rw [hxv, Int.toNat_natCast]
      have ho1 : Rg.outA m ws j = (Rg.tOf m (Rg.stA m ws j) a v).out := by unfold Rg.outA; rw [hxv, Int.toNat_natCast]
      obtain ⟨⟨l, r⟩, hst⟩ : ∃ st, st = Rg.stA m ws j := ⟨_, rfl⟩
      rw [← hst] at HN HOK hs1 ho1 ⊢
      obtain ⟨ov, hov⟩ : ∃ ov, ov = (Rg.tOf m (l, r) a v).out := ⟨_, rfl⟩
      obtain ⟨⟨l1, r1⟩, hn1⟩ : ∃ st, st = Rg.nxt m (l, r) a v := ⟨_, rfl⟩
      rw [← hov] at ho1
      rw [← hn1] at hs1
      have HST1 := Lib.hid hs1
      have HOU : Hid (Rg.outs m ws (j + 1) = Rg.outs m ws j ++ [ov]) := Lib.hid (by rw [Rg.outs_succ, ho1])
      have HNX := Lib.hid (And.intro hn1 hov)
      clear hxv ca cb hd hs1 ho1 hst hn1 hov
      go_upto_region 17 with (refine wpList_load_any rfl 63 _ rfl (ad.add (j * 2)) rfl [.int .i64 (a : Nat), .int .i64 v] _ hcc Try.underlying63 rfl (by kernel_rfl) ?_)
      generalize hwb : World.alloc _ _ = wz
      have KD : Hid (Blk wz wr.heap.size 63 #[.int .i64 (a : Nat), .int .i64 v]) := Lib.hid (by rw [← hwb]; exact Blk.new _ _ _)
      have hal : Below wr.heap.size wr wz := by rw [← hwb]; exact (Below.refl _ _).alloc (Nat.le_refl _) _
      replace HN := Lib.hid (HN.out.keep hal)
      replace HO := Lib.hid (own_keep HO.out hal)
      replace HB := Lib.hid (below_seq HB.out hal)
      have k0 := KD.out.cell 0
      have k1 := KD.out.cell 1
      generalize wr.heap.size = gk at *
      clear hwb hal hcc KD wr
      have BXz := HBX.out wz HB.out
      go_wp2_with (first | (refine wpList_load_row rfl 25 _ rfl w.heap.size rfl 25 (tc m A c B d) (0, 0) _ BXz Try.underlying25 rfl (by kernel_rfl) ?_) | (refine wpList_load_row rfl 66 _ rfl g11 rfl 66 (pcs r) (0, 0) _ HN.out Try.underlying66 rfl (by kernel_rfl) ?_))
      refine (move_p m k s l r a v A B c d wz HM.out HOK.out hak (HR.out.keep HB.out)).mono ?_
      rintro q wv ⟨rfl, hb⟩
      rw [← HNX.out.1, ← HNX.out.2]
      have HN1 := Lib.hid (HN.out.keep hb)
      replace HO := Lib.hid (own_keep HO.out hb)
      replace HB := Lib.hid (below_seq HB.out hb)
      clear hb HN k0 k1 BXz wz
      have KZ := Blk.new wv 66 (pcs [])
      go_upto_region 18 with (first | (refine wpList_store_row rfl 66 _ _ rfl wv.heap.size (pcs r1) rfl rfl 66 _ KZ (by kernel_rfl) rfl (pcs_one _) ?_))
      generalize hwb : World.setRow _ _ _ = wy
      have hal : Below wv.heap.size wv wy := by rw [← hwb]; exact below_row ((Below.refl _ _).alloc (Nat.le_refl _) _) (Nat.le_refl _) _
      have N15 : Hid (Blk wy wv.heap.size 66 (pcs r1)) := Lib.hid (by rw [← hwb]; exact set_row_blk KZ)
      have hne15 : wv.heap.size ≠ g11 := by have := HN1.out.lt; omega
      have HN2 := HN1.out.keep hal
      replace HO := Lib.hid (own_keep HO.out hal)
      replace HB := Lib.hid (below_seq HB.out hal)
      have hon : (Rg.outs m ws j).length ≤ 1099511627776 := by rw [Rg.outs_len]; omega
      generalize wv.heap.size = g15 at *
      clear hwb hal KZ HN1 wv
      refine wp_region_held_drew (S := fun wx => (∃ cs, cs.size = 4 ∧ Blk wx g11 66 cs) ∧ Blk wx g15 66 (pcs r1) ∧ Below w2.heap.size w2 wx ∧ OwnL elI 1 wx w2.heap.size 3 (.slice V j vc) (Rg.outs m ws j)) (by kernel_rfl) (⟨⟨_, rfl, HN2.drew⟩, N15.out.drew, HB.out.drew, own_drewN HO.out 1⟩) (fun hS => ?_)
      refine takeH (i := 0) (d := some 63) (v := ?_) rfl rfl (by kernel_rfl) (by kernel_rfl) (by kernel_rfl) (fun _ _ _ h => h) (Or.inl ⟨by rfl, ?_⟩) hS ?_
      rotate_left
      · intro wx hSx; clear hSx; first | (go_simp; done) | (go_simp; with_reducible rfl)
      simp only [Act.put, List.setIfInBounds_toArray, List.set_cons_zero, List.set_cons_succ]
      refine takeH (i := 1) (d := some 64) (v := .agg (pcs r1)) rfl rfl (by kernel_rfl) (by kernel_rfl) (by kernel_rfl) (fun _ _ _ h => h) (yieldsIf_load_any (by rfl) 66 _ rfl ⟨g15, 0, none⟩ rfl (pcs r1).toList _ (fun wx hSx => (hSx.2.1.part 0 _ rfl)) Try.underlying66 rfl (by kernel_rfl)) hS ?_
      simp only [Act.put, List.setIfInBounds_toArray, List.set_cons_zero, List.set_cons_succ]
      refine takeH (i := 2) (d := some 10) (v := ?_) rfl rfl (by kernel_rfl) (by kernel_rfl) (by kernel_rfl) (fun _ _ _ h => h) (Or.inl ⟨by rfl, ?_⟩) hS ?_
      rotate_left
      · intro wx hSx; clear hSx; first | (go_simp; done) | (go_simp; with_reducible rfl)
      simp only [Act.put, List.setIfInBounds_toArray, List.set_cons_zero, List.set_cons_succ]
      generalize hwa : World.drew _ = wa at hS ⊢
      clear hwa
      have HSa := Lib.hid hS
      clear hS
      refine wpAnyH_ready (rs := [3]) (by kernel_rfl) (by simp) ?_
      refine AllReadyH.cons rfl (fun K hK => ?_) AllReadyH.nil
      rw [if_pos (by rfl)]
      obtain ⟨cs0, hc0, N0⟩ := HSa.out.1
      refine wp_store_row 66 _ _ rfl g11 (pcs r1) rfl rfl 66 _ N0 (by kernel_rfl) hc0 (pcs_one _) ?_
      refine hK.out _ _ ⟨⟨_, rfl, set_row_blk N0⟩, far_row_blk HSa.out.2.1 hne15, below_row HSa.out.2.2.1 hg11 _, own_kt (bad := isT 66) HSa.out.2.2.2 (Kt.row N0.isT_) (isT_ne (by decide))⟩ (fun hS2 => ?_)
      clear hK K
      change wpAnyH _ _ _ _ _ _ _ (Act.put _ none _) _
      try simp only [Act.put]
      generalize hwb : World.setRow _ _ _ = wb at hS2 ⊢
      have N11b : Hid (Blk wb g11 66 (pcs r1)) := Lib.hid (by rw [← hwb]; exact set_row_blk N0)
      replace HSa := Lib.hid hS2
      clear hS2 hwb N0 hc0 wa
      rename World => wa
      refine wpAnyH_done (by kernel_rfl) ?_ _
      have HB2 := Lib.hid HSa.out.2.2.1
      have HO2 := Lib.hid HSa.out.2.2.2
      have hsz2 : w2.heap.size ≤ wa.heap.size := HB2.out.size
      clear HSa
      go_upto_region 20 with (first | (at_builtin; refine appL elI_len (by decide) rfl (.tmp 65) (.tmp 67) 22 3 _ _ rfl Try.underlying22 infoI rfl (by decide) (y := ov) rfl rfl rfl rfl HO2.out elI_one hon hsz2 ?_; intro v7 w7 ho7 hg7 hl7 hbb7 hbs7))
      have hk1 := app_kt HO2.out hg7
      have HN3 : Hid (Blk w7 g11 66 (pcs (Rg.stA m ws (j + 1)).2)) := Lib.hid (by rw [HST1.out]; exact blk_kt N11b.out hk1 (isT_ne (by decide)))
      have HB3 := Lib.hid (hbb7 w2.heap.size w2 (Nat.le_refl _) HB2.out)
      have HO3 : Hid (OwnL elI 1 w7 w2.heap.size 3 v7 (Rg.outs m ws (j + 1))) := Lib.hid (by rw [HOU.out]; exact ho7)
      clear hk1 ho7 hg7 hl7 hbb7 hbs7
      go_wp2_with fail
      go_roundw
      case rel => exact ⟨j + 1, by omega, by go_num, by rw [HST1.out], HN3, HO3, HB3⟩
      case measure => simp [intOf] <;> omega
end Go.Proofs.Ytaoebjabdejpoaa
