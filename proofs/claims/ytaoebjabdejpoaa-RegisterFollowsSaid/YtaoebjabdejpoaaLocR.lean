/- The reference's location of a register automaton: its error. -/
import Derived.Test.YtaoebjabdejpoaaTrn
import Derived.Test.YtaoebjabdejpoaaReg
namespace Go.Proofs.Ytaoebjabdejpoaa
open Go.RowKit

set_option linter.unusedSimpArgs false
set_option maxRecDepth 100000 in
set_option maxHeartbeats 8000000 in
theorem loc_r (m : Rg.M) (k l : Nat) (A B : Option Addr) (c d : Nat) (w : World) (hR : RdA w A B m) (hI : m.I = k) (hl : l < m.rg.length) (hlt : m.tr.length = m.rg.length) (hr : 0 ≤ Rg.nr m l ∧ Rg.nr m l ≤ 4) :
    Calls Try.prog 33 #[.agg #[.int .i64 m.I, .int .i64 m.S, .slice A m.rg.length c, .slice B m.tr.length d], .int .i64 l] w fun r w' => r = .returned (.int .i64 (Rg.locE m l)) ∧ Below w.heap.size w w' := by
  have HI := Lib.hid hI
  have HT := Lib.hid hlt
  have mn := hR.rg.1
  have hlm : (l : Int) < (m.tr.length : Int) := by omega
  have hli : (l : Int) < (m.rg.length : Int) := by omega
  clear hI hlt
  go_enter Try.func33, Try.ntmps33
  go_upto_region 1 with fail
  generalize hwb : World.alloc _ _ = w1
  have BX : Hid (BoxT w1 w.heap.size m A c B d) := Lib.hid (boxT (by rw [← hwb]; exact Blk.new _ _ _))
  have HBL : Hid (Below w.heap.size w w1) := Lib.hid (by rw [← hwb]; exact (Below.refl _ _).alloc (Nat.le_refl _) _)
  have HR := Lib.hid (hR.keep HBL.out)
  clear hwb hR
  have hlt2 : l < m.tr.length := by have := HT.out; omega
  obtain ⟨ad, C1, e1, xs, rfl, hx, cx, rx⟩ := HR.out.tr.at_ hlt2
  have c0 := BX.out.c0
  rw [HI.out] at c0
  have c2 := BX.out.c2
  have c3 := BX.out.c3
  have mx := rx.1
  have HX := Lib.hid hx
  have RX := Lib.hid rx
  clear hx rx hlt2
  by_cases h1 : xs.length = k
  rotate_left
  · have HFIN := Lib.hid (show Rg.locE m l = 1 from Rg.loc_len (by rw [HX.out, HI.out]; omega))
    have b7 : ((xs.length : Int) != (k : Int)) = true := by rw [bne_iff_ne]; omega
    clear h1
    go_quiet (fail)
    go_wp2
    go_ret
    exact ⟨by rw [HFIN.out]; rfl, below_drewN' HBL.out _⟩
  have HLO : Hid (Rg.locE m l = Mea.firstE (Rg.actE m l) k) := Lib.hid (by have := Rg.loc_in (m := m) (l := l) (by rw [HX.out, HI.out]; omega); rw [HI.out, Int.toNat_natCast] at this; exact this)
  have b7 : ((xs.length : Int) != (k : Int)) = false := by rw [bne_eq_false_iff_eq]; omega
  have HL := Lib.hid h1
  clear h1
  go_quiet (fail)
  clear b7
  go_upto_region 4 with fail
  obtain ⟨a2, r, e2, hr0, cr⟩ := HR.out.rg.at_ hl
  have HNR : Hid (Rg.nr m l = r) := Lib.hid hr0
  rw [HNR.out] at hr
  subst e2
  have hr1 : 0 ≤ r + 1 := by omega
  have hwr : IntKind.i64.wrap (r + 1) = r + 1 := IntWalk.i64_in (r + 1) (by omega)
  clear hr0
  generalize hwd : w1.drewN _ = w2
  have h12 : Below w1.heap.size w1 w2 := by rw [← hwd]; exact below_drewN' (Below.refl _ _) _
  replace BX := Lib.hid (BX.out.keep h12)
  replace RX := Lib.hid (RX.out.keep (fun h b => h.keep b) h12)
  replace HR := Lib.hid (HR.out.keep h12)
  replace HBL := Lib.hid (below_seq HBL.out h12)
  replace c0 := keep_cell h12 c0
  replace c2 := keep_cell h12 c2
  replace c3 := keep_cell h12 c3
  replace cx := keep_cell h12 cx
  replace cr := keep_cell h12 cr
  clear h12 hwd w1
  have HC0 := Lib.hid c0
  have HC2 := Lib.hid c2
  have HC3 := Lib.hid c3
  have HCX := Lib.hid cx
  have HCR := Lib.hid cr
  have BXK : Hid (∀ wz, Below w2.heap.size w2 wz → Blk wz w.heap.size 25 (tc m (some a2) c (some ad) d)) := Lib.hid (fun wz hz => BX.out.blk.keep hz)
  clear c0 c2 c3 cx cr BX
  go_loopw [5] (fun v wr => ∃ (a : Nat), a ≤ k ∧ v = .int .i64 a ∧ Hid (Below w2.heap.size w2 wr) ∧ Hid (∀ t, t < a → Rg.actE m l t = 0)) (fun v _ => k - (intOf v).toNat)
  case atStart => exact ⟨0, Nat.zero_le _, rfl, Lib.hid (Below.refl _ _), Lib.hid (fun t ht => by omega)⟩
  case round =>
    obtain ⟨a, ha, rfl, HB, HC⟩ := hrel
    rename World => wr
    have c0 := keep_cell HB.out HC0.out
    by_cases hak : a < k
    rotate_left
    · obtain rfl : a = k := by omega
      have HFIN := Lib.hid (show Rg.locE m l = 0 by rw [HLO.out]; exact Mea.firstE_zero HC.out)
      go_wp2
      go_ret
      exact ⟨by rw [HFIN.out]; rfl, below_seq HBL.out HB.out⟩
    have hax : a < xs.length := by rw [HL.out]; exact hak
    have haxi : (a : Int) < (xs.length : Int) := by omega
    obtain ⟨a1, C2, e3, ys, rfl, hy, cy, ry⟩ := RX.out.at_ hax
    have HY : Hid (Rg.cellT m l a = ys) := Lib.hid (by unfold Rg.cellT; rw [HX.out]; exact hy)
    have my := ry.1
    have RY := Lib.hid ry
    have HCY := Lib.hid cy
    replace cy := keep_cell HB.out cy
    have c2 := keep_cell HB.out HC2.out
    have c3 := keep_cell HB.out HC3.out
    have cx := keep_cell HB.out HCX.out
    have cr := keep_cell HB.out HCR.out
    clear hy ry
    by_cases h2 : (ys.length : Int) = r + 1
    rotate_left
    · have hval : Rg.actE m l a = 1 := Rg.act_len (by rw [HY.out, HNR.out]; exact h2)
      have HFIN := Lib.hid (show Rg.locE m l = 1 by rw [HLO.out]; exact (Mea.firstE_at HC.out (by rw [hval]; decide) hak).trans hval)
      have b7 : ((ys.length : Int) != r + 1) = true := by rw [bne_iff_ne]; exact h2
      clear hval h2
      go_upto_region 6 with fail
      go_quiet (fail)
      go_wp2
      go_ret
      exact ⟨by rw [HFIN.out]; rfl, below_drewN' (below_seq HBL.out HB.out) _⟩
    have HAC : Hid (Rg.actE m l a = Mea.firstE (fun i => Rg.transE m l (Rg.trans m l a i)) ys.length) := Lib.hid (by have := Rg.act_in (m := m) (l := l) (a := a) (by rw [HY.out, HNR.out]; exact fun h => h h2); rw [HY.out] at this; exact this)
    have b7 : ((ys.length : Int) != r + 1) = false := by rw [bne_eq_false_iff_eq]; exact h2
    clear h2
    go_upto_region 6 with fail
    go_quiet (fail)
    go_upto_region 9 with fail
    clear b7
    generalize hwd : wr.drewN _ = wx
    have h12 : Below wr.heap.size wr wx := by rw [← hwd]; exact below_drewN' (Below.refl _ _) _
    replace HB := Lib.hid (below_seq HB.out h12)
    clear h12 hwd cx cy cr c0 c2 c3 wr
    go_loopw [6] (fun v wy => ∃ (i : Nat), i ≤ ys.length ∧ v = .int .i64 i ∧ Hid (Below w2.heap.size w2 wy) ∧ Hid (∀ t, t < i → Rg.transE m l (Rg.trans m l a t) = 0)) (fun v _ => ys.length - (intOf v).toNat)
    case atStart => exact ⟨0, Nat.zero_le _, rfl, HB, Lib.hid (fun t ht => by omega)⟩
    case round =>
      clear HB
      obtain ⟨i, hi, rfl, HB, HCI⟩ := hrel
      clear wx
      rename World => wy
      have c3 := keep_cell HB.out HC3.out
      have cx := keep_cell HB.out HCX.out
      have cy := keep_cell HB.out HCY.out
      by_cases hiy : i < ys.length
      rotate_left
      · obtain rfl : i = ys.length := by omega
        have hval : Rg.actE m l a = 0 := by rw [HAC.out]; exact Mea.firstE_zero HCI.out
        have HC2' : Hid (∀ t, t < a + 1 → Rg.actE m l t = 0) := Lib.hid (fun t ht => by
          by_cases et : t = a
          · subst et; exact hval
          · exact HC.out t (by omega))
        clear hval
        go_wp2
        go_roundw
        case rel => exact ⟨a + 1, by omega, by go_num, HB, HC2'⟩
        case measure => simp [intOf] <;> omega
      have hiyi : (i : Int) < (ys.length : Int) := by omega
      obtain ⟨a3, C2, e2, x, y, zs, rfl, ht, t0, t1, t2, rz⟩ := RY.out.at_ hiy
      have HTR : Hid (Rg.trans m l a i = ⟨x, y, zs⟩) := Lib.hid (by unfold Rg.trans; rw [HY.out]; exact ht)
      have HZ := Lib.hid rz
      have HCT := Lib.hid (cells3 (keep_cell HB.out t0) (keep_cell HB.out t1) (keep_cell HB.out t2))
      have hsz : w2.heap.size ≤ wy.heap.size := HB.out.size
      clear ht t0 t1 t2 rz
      obtain ⟨q, hq⟩ : ∃ q, q = Rg.transE m l ⟨x, y, zs⟩ := ⟨_, rfl⟩
      have HE0 := Lib.hid hq
      go_upto_region 11 with fail
      go_cut [7] (fun v wx => v = .int .i64 q ∧ Below wy.heap.size wy wx)
      case first =>
        refine wp_region_held_drew (S := fun wx => Below wy.heap.size wy wx) (by kernel_rfl) ((Below.refl _ _).drew) (fun hS => ?_)
        refine takeH (i := 0) (d := some 52) (v := .agg #[.int .i64 m.I, .int .i64 m.S, .slice (some a2) m.rg.length c, .slice (some ad) m.tr.length d]) rfl rfl (by kernel_rfl) (by kernel_rfl) (by kernel_rfl) (fun _ _ _ h => h) (yieldsIf_load_any (by rfl) 25 _ rfl ⟨w.heap.size, 0, none⟩ rfl [.int .i64 m.I, .int .i64 m.S, .slice (some a2) m.rg.length c, .slice (some ad) m.tr.length d] _ (fun wx hSx => ((BXK.out wx (HB.out.trans (Below.mono hSx hsz))).part 0 _ rfl)) Try.underlying25 rfl (by kernel_rfl)) hS ?_
        simp only [Act.put, List.setIfInBounds_toArray, List.set_cons_zero, List.set_cons_succ]
        refine takeH (i := 1) (d := some 53) (v := ?_) rfl rfl (by kernel_rfl) (by kernel_rfl) (by kernel_rfl) (fun _ _ _ h => h) (Or.inl ⟨by rfl, ?_⟩) hS ?_
        rotate_left
        · intro wx hSx; clear hSx; first | (go_simp; done) | (go_simp; with_reducible rfl)
        simp only [Act.put, List.setIfInBounds_toArray, List.set_cons_zero, List.set_cons_succ]
        refine takeH (i := 2) (d := some 54) (v := ?_) rfl rfl (by kernel_rfl) (by kernel_rfl) (by kernel_rfl) (fun _ _ _ h => h) (Or.inl ⟨by rfl, ?_⟩) hS ?_
        rotate_left
        · intro wx hSx; clear hSx; first | (go_simp; done) | (go_simp; with_reducible rfl)
        simp only [Act.put, List.setIfInBounds_toArray, List.set_cons_zero, List.set_cons_succ]
        refine takeH (i := 3) (d := some 55) (v := ?_) rfl rfl (by kernel_rfl) (by kernel_rfl) (by kernel_rfl) (fun _ _ _ h => h) (Or.inl ⟨by rfl, ?_⟩) hS ?_
        rotate_left
        · intro wx hSx; have hSy : Below wy.heap.size wy wx := hSx; have e0 := keep_cell hSy c3; have e1 := keep_cell hSy cx; have e2 := keep_cell hSy cy; clear hSy hSx; first | (go_simp; done) | (go_simp; with_reducible rfl)
        simp only [Act.put, List.setIfInBounds_toArray, List.set_cons_zero, List.set_cons_succ]
        refine takeH (i := 4) (d := some 56) (v := ?_) rfl rfl (by kernel_rfl) (by kernel_rfl) (by kernel_rfl) (fun _ _ _ h => h) (Or.inl ⟨by rfl, ?_⟩) hS ?_
        rotate_left
        · intro wx hSx; clear hSx; first | (go_simp; done) | (go_simp; with_reducible rfl)
        simp only [Act.put, List.setIfInBounds_toArray, List.set_cons_zero, List.set_cons_succ]
        refine takeH (i := 5) (d := some 57) (v := ?_) rfl rfl (by kernel_rfl) (by kernel_rfl) (by kernel_rfl) (fun _ _ _ h => h) (Or.inl ⟨by rfl, ?_⟩) hS ?_
        rotate_left
        · intro wx hSx; clear hSx; first | (go_simp; done) | (go_simp; with_reducible rfl)
        simp only [Act.put, List.setIfInBounds_toArray, List.set_cons_zero, List.set_cons_succ]
        refine takeH (i := 6) (d := some 58) (v := ?_) rfl rfl (by kernel_rfl) (by kernel_rfl) (by kernel_rfl) (fun _ _ _ h => h) (Or.inl ⟨by rfl, ?_⟩) hS ?_
        rotate_left
        · intro wx hSx; have hSy : Below wy.heap.size wy wx := hSx; have e0 := keep_cell hSy c3; have e1 := keep_cell hSy cx; have e2 := keep_cell hSy cy; clear hSy hSx; first | (go_simp; done) | (go_simp; with_reducible rfl)
        simp only [Act.put, List.setIfInBounds_toArray, List.set_cons_zero, List.set_cons_succ]
        refine takeH (i := 7) (d := some 59) (v := ?_) rfl rfl (by kernel_rfl) (by kernel_rfl) (by kernel_rfl) (fun _ _ _ h => h) (Or.inl ⟨by rfl, ?_⟩) hS ?_
        rotate_left
        · intro wx hSx; clear hSx; first | (go_simp; done) | (go_simp; with_reducible rfl)
        simp only [Act.put, List.setIfInBounds_toArray, List.set_cons_zero, List.set_cons_succ]
        refine takeH (i := 8) (d := some 60) (v := ?_) rfl rfl (by kernel_rfl) (by kernel_rfl) (by kernel_rfl) (fun _ _ _ h => h) (Or.inl ⟨by rfl, ?_⟩) hS ?_
        rotate_left
        · intro wx hSx; clear hSx; first | (go_simp; done) | (go_simp; with_reducible rfl)
        simp only [Act.put, List.setIfInBounds_toArray, List.set_cons_zero, List.set_cons_succ]
        refine takeH (i := 9) (d := some 61) (v := ?_) rfl rfl (by kernel_rfl) (by kernel_rfl) (by kernel_rfl) (fun _ _ _ h => h) (Or.inl ⟨by rfl, ?_⟩) hS ?_
        rotate_left
        · intro wx hSx; have hSy : Below wy.heap.size wy wx := hSx; have e0 := keep_cell hSy c3; have e1 := keep_cell hSy cx; have e2 := keep_cell hSy cy; clear hSy hSx; first | (go_simp; done) | (go_simp; with_reducible rfl)
        simp only [Act.put, List.setIfInBounds_toArray, List.set_cons_zero, List.set_cons_succ]
        refine takeH (i := 10) (d := some 62) (v := ?_) rfl rfl (by kernel_rfl) (by kernel_rfl) (by kernel_rfl) (fun _ _ _ h => h) (Or.inl ⟨by rfl, ?_⟩) hS ?_
        rotate_left
        · intro wx hSx; clear hSx; first | (go_simp; done) | (go_simp; with_reducible rfl)
        simp only [Act.put, List.setIfInBounds_toArray, List.set_cons_zero, List.set_cons_succ]
        refine takeH (i := 11) (d := some 63) (v := ?_) rfl rfl (by kernel_rfl) (by kernel_rfl) (by kernel_rfl) (fun _ _ _ h => h) (Or.inl ⟨by rfl, ?_⟩) hS ?_
        rotate_left
        · intro wx hSx; clear hSx; first | (go_simp; done) | (go_simp; with_reducible rfl)
        simp only [Act.put, List.setIfInBounds_toArray, List.set_cons_zero, List.set_cons_succ]
        refine takeH (i := 12) (d := some 64) (v := .agg #[.int .i64 x, .int .i64 y, .slice C2 zs.length e2]) rfl rfl (by kernel_rfl) (by kernel_rfl) (by kernel_rfl) (fun _ _ _ h => h) (yieldsIf_load_any (by rfl) 94 _ rfl (a3.add (i * 3)) rfl [.int .i64 x, .int .i64 y, .slice C2 zs.length e2] _ (fun wx hSx => (fun jj u hu => keep_cell hSx (HCT.out jj u hu))) Try.underlying94 rfl (by kernel_rfl)) hS ?_
        simp only [Act.put, List.setIfInBounds_toArray, List.set_cons_zero, List.set_cons_succ]
        generalize hwa : World.drew _ = wa at hS ⊢
        clear hwa
        have HSa := Lib.hid hS
        clear hS
        refine wpAnyH_ready (rs := [13]) (by kernel_rfl) (by simp) ?_
        refine AllReadyH.cons rfl (fun K hK => ?_) AllReadyH.nil
        rw [if_pos (by rfl)]
        try go_simp
        refine (trans_r m l x y zs (some a2) (some ad) C2 c d e2 wa (HR.out.keep (below_seq HB.out HSa.out)) (HZ.out.keep (below_seq HB.out HSa.out)) hl).mono ?_
        rintro r wv ⟨rfl, hb⟩
        refine hK.out _ _ (below_seq HSa.out hb) (fun hS2 => ?_)
        clear hK K
        try simp only [Act.put, List.setIfInBounds_toArray, List.set_cons_zero, List.set_cons_succ]
        replace HSa := Lib.hid hS2
        clear hS2 hb wa
        rename World => wa
        refine takeH (i := 14) (d := some 7) (v := ?_) rfl rfl (by kernel_rfl) (by kernel_rfl) (by kernel_rfl) (fun _ _ _ h => h) (Or.inl ⟨by rfl, ?_⟩) HSa.out ?_
        rotate_left
        · intro wx hSx; clear hSx; first | (go_simp; done) | (go_simp; with_reducible rfl)
        simp only [Act.put, List.setIfInBounds_toArray, List.set_cons_zero, List.set_cons_succ]
        refine wpAnyH_done (by kernel_rfl) ?_ _
        go_wp2_with fail
        go_meet
        exact ⟨by rw [HE0.out], HSa.out⟩
      case rest =>
      obtain ⟨rfl, hbx⟩ := hcut
      rename World => wu
      try apply_assumption
      replace HB := Lib.hid (below_seq HB.out hbx)
      clear hbx c3 cx cy HCT
      by_cases hz : q = 0
      · have hval : Rg.transE m l (Rg.trans m l a i) = 0 := by rw [HTR.out, ← HE0.out, hz]
        have HCI2 : Hid (∀ t, t < i + 1 → Rg.transE m l (Rg.trans m l a t) = 0) := Lib.hid (fun t ht => by
          by_cases et : t = i
          · subst et; exact hval
          · exact HCI.out t (by omega))
        have bz : (q != 0) = false := by rw [bne_eq_false_iff_eq]; exact hz
        clear hz hval hq
        go_wp2
        go_roundw
        case rel => exact ⟨i + 1, by omega, by go_num, HB, HCI2⟩
        case measure => simp [intOf] <;> omega
      · have hv1 : Rg.transE m l (Rg.trans m l a i) = q := by rw [HTR.out, ← HE0.out]
        have hv2 : Rg.actE m l a = q := by rw [HAC.out]; exact (Mea.firstE_at HCI.out (by rw [hv1]; exact hz) hiy).trans hv1
        have HFIN := Lib.hid (show Rg.locE m l = q by rw [HLO.out]; exact (Mea.firstE_at HC.out (by rw [hv2]; exact hz) hak).trans hv2)
        have bz : (q != 0) = true := by rw [bne_iff_ne]; exact hz
        clear hz hv1 hv2 hq
        go_wp2
        go_ret
        exact ⟨by rw [HFIN.out]; rfl, below_seq HBL.out HB.out⟩
end Go.Proofs.Ytaoebjabdejpoaa
