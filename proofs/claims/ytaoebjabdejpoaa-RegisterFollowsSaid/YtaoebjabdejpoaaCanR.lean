/- The canonical form of a data word: the reference's. -/
import Derived.Test.YtaoebjabdejpoaaCan
import Derived.Test.YtaoebjabdejpoaaHel
namespace Go.Proofs.Ytaoebjabdejpoaa
open Go.RowKit

theorem own_rdi {w : World} {base e : Nat} {A : Option Addr} {n c : Nat} {q : List Int} (h : OwnL elI 1 w base e (.slice A n c) q) (hn : n ≤ 1152921504606846976) : q.length = n ∧ Rd w A q := by
  unfold OwnL at h
  rw [elI_flat] at h
  have hl : q.length = n := by rcases h.2 with ⟨hv, h0⟩ | ⟨g, cap, cur, hv, _⟩ <;> (injection hv with h1 h2 h3; omega)
  rw [hl] at h
  exact own_rd h hn
set_option linter.unusedSimpArgs false
set_option maxRecDepth 100000 in
set_option maxHeartbeats 4000000 in
theorem canon_r (ws : Rg.Dw) (A : Option Addr) (c : Nat) (w : World) (hR : Rd2 w A ws) (hlen : ws.length ≤ 2000) :
    Calls Try.prog 20 #[.slice A ws.length c] w fun e w' => (∃ v, e = .returned v ∧ OwnL elD 2 w' w.heap.size 63 v (Rg.canon ws ws.length)) ∧ Below w.heap.size w w' := by
  have HR := Lib.hid hR
  have mw := hR.1
  clear hR
  go_enter Try.func20, Try.ntmps20
  go_upto_region 4 with fail
  go_loopw [3, 4, 5] (fun vv ov jv wr => ∃ j : Nat, j ≤ ws.length ∧ jv = .int .i64 j ∧ Hid (OwnL elI 1 wr w.heap.size 3 vv (Rg.vals ws j)) ∧ Hid (OwnL elD 2 wr w.heap.size 63 ov (Rg.canon ws j)) ∧ Hid (Below w.heap.size w wr)) (fun _ _ jv _ => ws.length - (intOf jv).toNat)
  case atStart => exact ⟨0, Nat.zero_le _, rfl, Lib.hid (World.ownsRow_nil _ _ _ _), Lib.hid (World.ownsRow_nil _ _ _ _), Lib.hid (Below.refl _ _)⟩
  case round =>
    obtain ⟨j, hj, rfl, HV, HO, HB⟩ := hrel
    rename World => wr
    obtain ⟨U, uc, hU⟩ := own_slice HO.out
    rw [Rg.canon_len] at hU
    subst hU
    obtain ⟨V, vc, rfl⟩ := own_slice HV.out
    by_cases hjl : j < ws.length
    rotate_left
    · obtain rfl : j = ws.length := by omega
      go_wp2
      go_ret
      exact ⟨⟨_, rfl, HO.out⟩, HB.out⟩
    have hji : (j : Int) < (ws.length : Int) := by omega
    obtain ⟨ad, x, v, rfl, hxv, ca, cb⟩ := HR.out.at_ hjl
    have hv : (ws.getD j (0, 0)).2 = v := by rw [hxv]
    have hvl := Rg.vals_len ws j
    have HQ0 := Lib.hid (own_rdi HV.out (by omega)).2
    have cbf := cell_fld cb (by decide)
    have cbr := keep_cell HB.out cbf
    have hon : (Rg.canon ws j).length ≤ 1099511627776 := by rw [Rg.canon_len]; omega
    have hbs : w.heap.size ≤ wr.heap.size := HB.out.size
    have hnum : Rg.numI (Rg.vals ws (j + 1)) v = Rg.numA ws j := by
      have h1 := Rg.vals_has ws j
      rw [hv] at h1
      rw [Rg.numI_in h1]; unfold Rg.numA; rw [hv]
    obtain ⟨nn, hnn⟩ : ∃ nn : Int, nn = (Rg.numA ws j : Int) := ⟨_, rfl⟩
    have HCN := Lib.hid (show Rg.canon ws (j + 1) = Rg.canon ws j ++ [(x, nn)] by rw [Rg.canon_succ]; unfold Rg.canA; rw [hxv, hnn])
    have HNUM : Hid ((Rg.numI (Rg.vals ws (j + 1)) v : Int) = nn) := Lib.hid (by rw [hnum, hnn])
    obtain ⟨q0, hq0⟩ : ∃ q0, q0 = Rg.vals ws j := ⟨_, rfl⟩
    rw [← hq0] at HV HQ0 hvl ⊢
    clear hnum hnn hxv
    by_cases hm : v ∈ q0
    · have hvs : Rg.vals ws (j + 1) = q0 := by rw [hq0]; exact Rg.vals_old (by rw [hv, ← hq0]; exact hm)
      have hz := Rg.numI_in hm
      obtain ⟨f, hf⟩ : ∃ f, f = Rg.numI q0 v := ⟨_, rfl⟩
      have hfe : ((f : Int) == 0) = false := beq_eq_false_iff_ne.2 (by omega)
      have HF := Lib.hid hf
      rw [hvs] at HNUM
      have HVS := Lib.hid hvs
      clear hm hz hf hvs hv hq0
      go_upto_region 8 with (first | (go_at_call 36; (with_reducible refine (number_r V vc q0 v _ HQ0.out).mono ?_); rintro r wv ⟨rfl, n, rfl⟩; rw [← HF.out]))
      replace HV := Lib.hid (own_drewN HV.out n)
      replace HO := Lib.hid (own_drewN HO.out n)
      replace HB := Lib.hid (below_drewN' HB.out n)
      clear HQ0 cbr hfe HF hbs
      generalize hwd : World.drewN wr n = wy at *
      clear hwd wr
      obtain ⟨q, rfl⟩ : ∃ q, q = q0 := ⟨_, rfl⟩
      have HQ : Hid (∀ wx, OwnL elI 1 wx w.heap.size 3 (.slice V q.length vc) q → Rd wx V q) := Lib.hid (fun wx h => (own_rdi h (by omega)).2)
      refine wp_region_held_drew (S := fun wx => Below w.heap.size w wx) (by kernel_rfl) (HB.out.drew) (fun hS => ?_)
      refine takeH (i := 0) (d := some 28) (v := ?_) rfl rfl (by kernel_rfl) (by kernel_rfl) (by kernel_rfl) (fun _ _ _ h => h) (Or.inl ⟨by rfl, ?_⟩) hS ?_
      rotate_left
      · intro wx hSx; clear hSx; first | (go_simp; done) | (go_simp; with_reducible rfl)
      simp only [Act.put, List.setIfInBounds_toArray, List.set_cons_zero, List.set_cons_succ]
      refine takeH (i := 1) (d := some 29) (v := ?_) rfl rfl (by kernel_rfl) (by kernel_rfl) (by kernel_rfl) (fun _ _ _ h => h) (Or.inl ⟨by rfl, ?_⟩) hS ?_
      rotate_left
      · intro wx hSx; clear hSx; first | (go_simp; done) | (go_simp; with_reducible rfl)
      simp only [Act.put, List.setIfInBounds_toArray, List.set_cons_zero, List.set_cons_succ]
      refine takeH (i := 2) (d := some 30) (v := ?_) rfl rfl (by kernel_rfl) (by kernel_rfl) (by kernel_rfl) (fun _ _ _ h => h) (Or.inl ⟨by rfl, ?_⟩) hS ?_
      rotate_left
      · intro wx hSx; clear hSx; first | (go_simp; done) | (go_simp; with_reducible rfl)
      simp only [Act.put, List.setIfInBounds_toArray, List.set_cons_zero, List.set_cons_succ]
      refine takeH (i := 3) (d := some 31) (v := ?_) rfl rfl (by kernel_rfl) (by kernel_rfl) (by kernel_rfl) (fun _ _ _ h => h) (Or.inl ⟨by rfl, ?_⟩) hS ?_
      rotate_left
      · intro wx hSx; clear hSx; first | (go_simp; done) | (go_simp; with_reducible rfl)
      simp only [Act.put, List.setIfInBounds_toArray, List.set_cons_zero, List.set_cons_succ]
      refine takeH (i := 4) (d := some 32) (v := ?_) rfl rfl (by kernel_rfl) (by kernel_rfl) (by kernel_rfl) (fun _ _ _ h => h) (Or.inl ⟨by rfl, ?_⟩) hS ?_
      rotate_left
      · intro wx hSx; clear hSx; first | (go_simp; done) | (go_simp; with_reducible rfl)
      simp only [Act.put, List.setIfInBounds_toArray, List.set_cons_zero, List.set_cons_succ]
      refine takeH (i := 5) (d := some 33) (v := ?_) rfl rfl (by kernel_rfl) (by kernel_rfl) (by kernel_rfl) (fun _ _ _ h => h) (Or.inl ⟨by rfl, ?_⟩) hS ?_
      rotate_left
      · intro wx hSx; have hSy : Below w.heap.size w wx := hSx; have e0 := keep_cell hSy ca; have e1 := keep_cell hSy cbf; clear hSy hSx; first | (go_simp; done) | (go_simp; with_reducible rfl)
      simp only [Act.put, List.setIfInBounds_toArray, List.set_cons_zero, List.set_cons_succ]
      refine takeH (i := 6) (d := some 34) (v := ?_) rfl rfl (by kernel_rfl) (by kernel_rfl) (by kernel_rfl) (fun _ _ _ h => h) (Or.inl ⟨by rfl, ?_⟩) hS ?_
      rotate_left
      · intro wx hSx; clear hSx; first | (go_simp; done) | (go_simp; with_reducible rfl)
      simp only [Act.put, List.setIfInBounds_toArray, List.set_cons_zero, List.set_cons_succ]
      refine takeH (i := 7) (d := some 35) (v := ?_) rfl rfl (by kernel_rfl) (by kernel_rfl) (by kernel_rfl) (fun _ _ _ h => h) (Or.inl ⟨by rfl, ?_⟩) hS ?_
      rotate_left
      · intro wx hSx; clear hSx; first | (go_simp; done) | (go_simp; with_reducible rfl)
      simp only [Act.put, List.setIfInBounds_toArray, List.set_cons_zero, List.set_cons_succ]
      refine takeH (i := 8) (d := some 36) (v := ?_) rfl rfl (by kernel_rfl) (by kernel_rfl) (by kernel_rfl) (fun _ _ _ h => h) (Or.inl ⟨by rfl, ?_⟩) hS ?_
      rotate_left
      · intro wx hSx; clear hSx; first | (go_simp; done) | (go_simp; with_reducible rfl)
      simp only [Act.put, List.setIfInBounds_toArray, List.set_cons_zero, List.set_cons_succ]
      refine takeH (i := 9) (d := some 37) (v := ?_) rfl rfl (by kernel_rfl) (by kernel_rfl) (by kernel_rfl) (fun _ _ _ h => h) (Or.inl ⟨by rfl, ?_⟩) hS ?_
      rotate_left
      · intro wx hSx; clear hSx; first | (go_simp; done) | (go_simp; with_reducible rfl)
      simp only [Act.put, List.setIfInBounds_toArray, List.set_cons_zero, List.set_cons_succ]
      refine takeH (i := 10) (d := some 38) (v := ?_) rfl rfl (by kernel_rfl) (by kernel_rfl) (by kernel_rfl) (fun _ _ _ h => h) (Or.inl ⟨by rfl, ?_⟩) hS ?_
      rotate_left
      · intro wx hSx; clear hSx; first | (go_simp; done) | (go_simp; with_reducible rfl)
      simp only [Act.put, List.setIfInBounds_toArray, List.set_cons_zero, List.set_cons_succ]
      refine takeH (i := 11) (d := some 39) (v := ?_) rfl rfl (by kernel_rfl) (by kernel_rfl) (by kernel_rfl) (fun _ _ _ h => h) (Or.inl ⟨by rfl, ?_⟩) hS ?_
      rotate_left
      · intro wx hSx; have hSy : Below w.heap.size w wx := hSx; have e0 := keep_cell hSy ca; have e1 := keep_cell hSy cbf; clear hSy hSx; first | (go_simp; done) | (go_simp; with_reducible rfl)
      simp only [Act.put, List.setIfInBounds_toArray, List.set_cons_zero, List.set_cons_succ]
      generalize hwa : World.drew _ = wa at hS ⊢
      have HOa : Hid (OwnL elI 1 wa w.heap.size 3 (.slice V q.length vc) q ∧ OwnL elD 2 wa w.heap.size 63 (.slice U j uc) (Rg.canon ws j)) := Lib.hid (by rw [← hwa]; exact ⟨own_drewN HV.out 1, own_drewN HO.out 1⟩)
      clear hwa
      have HSa := Lib.hid hS
      clear hS
      refine wpAnyH_ready (rs := [12]) (by kernel_rfl) (by simp) ?_
      refine AllReadyH.cons rfl (fun K hK => ?_) AllReadyH.nil
      rw [if_pos (by rfl)]
      try go_simp
      refine (number_r V vc q v wa (HQ.out wa HOa.out.1)).mono ?_
      rintro r wv ⟨rfl, n, rfl⟩
      rw [HNUM.out]
      refine hK.out _ _ (below_drewN' HSa.out n) (fun hS2 => ?_)
      clear hK K
      try simp only [Act.put, List.setIfInBounds_toArray, List.set_cons_zero, List.set_cons_succ]
      replace HOa := Lib.hid (And.intro (own_drewN HOa.out.1 n) (own_drewN HOa.out.2 n))
      replace HSa := Lib.hid hS2
      clear hS2
      generalize hwb : World.drewN wa n = wb at *
      clear hwb wa
      rename World => wa
      refine takeH (i := 13) (d := some 41) (v := ?_) rfl rfl (by kernel_rfl) (by kernel_rfl) (by kernel_rfl) (fun _ _ _ h => h) (Or.inl ⟨by rfl, ?_⟩) HSa.out ?_
      rotate_left
      · intro wx hSx; clear hSx; first | (go_simp; done) | (go_simp; with_reducible rfl)
      simp only [Act.put, List.setIfInBounds_toArray, List.set_cons_zero, List.set_cons_succ]
      refine wpAnyH_ready (rs := [14]) (by kernel_rfl) (by simp) ?_
      refine AllReadyH.cons rfl (fun K hK => ?_) AllReadyH.nil
      rw [if_pos (by rfl)]
      go_simp
      refine hK.out _ _ (Below.alloc HSa.out HSa.out.size _) (fun hS2 => ?_)
      clear hK K
      try simp only [Act.put, List.setIfInBounds_toArray, List.set_cons_zero, List.set_cons_succ]
      generalize hwb : World.alloc _ _ = wb at hS2 ⊢
      have hal : Below wa.heap.size wa wb := by rw [← hwb]; exact (Below.refl _ _).alloc (Nat.le_refl _) _
      have N1B : Hid (Blk wb wa.heap.size 63 #[.int .i64 x, .int .i64 nn]) := Lib.hid (by rw [← hwb]; exact Blk.new _ _ _)
      replace HOa := Lib.hid (And.intro (own_keep HOa.out.1 hal) (own_keep HOa.out.2 hal))
      replace HSa := Lib.hid hS2
      generalize wa.heap.size = gN1B at *
      clear hS2 hwb hal wa
      rename World => wa
      refine wpAnyH_ready (rs := [15]) (by kernel_rfl) (by simp) ?_
      refine AllReadyH.cons rfl (fun K hK => ?_) AllReadyH.nil
      rw [if_pos (by rfl)]
      obtain ⟨v7, w7, hrun7, hn7, hg7, hl7, hb7, hbad7⟩ := own_app1 (P := Try.prog) elD_len (by decide) 26 26 63 (.agg #[.int .i64 0, .int .i64 0]) 16 Try.underlying26 infoD rfl (by decide) (y := (x, nn)) rfl N1B.out HOa.out.2 elD_one hon HSa.out.size
      have hV7 := World.ownsRow.kept HOa.out.1 hg7 (own_ne HOa.out.1 HOa.out.2 (by decide))
      refine wp_app_run (.tmp 28) (.tmp 42) 26 rfl hrun7 ?_
      refine hK.out _ _ (HSa.out.trans hb7) (fun hS2 => ?_)
      clear hK K hrun7
      try simp only [Act.put, List.setIfInBounds_toArray, List.set_cons_zero, List.set_cons_succ]
      replace HSa := Lib.hid hS2
      replace HOa := Lib.hid (And.intro hV7 hn7)
      clear hS2 hV7 hn7 hg7 hl7 hb7 hbad7 N1B wa
      rename World => wa
      refine takeH (i := 16) (d := some 4) (v := ?_) rfl rfl (by kernel_rfl) (by kernel_rfl) (by kernel_rfl) (fun _ _ _ h => h) (Or.inl ⟨by rfl, ?_⟩) HSa.out ?_
      rotate_left
      · intro wx hSx; clear hSx; first | (go_simp; done) | (go_simp; with_reducible rfl)
      simp only [Act.put, List.setIfInBounds_toArray, List.set_cons_zero, List.set_cons_succ]
      refine wpAnyH_done (by kernel_rfl) ?_ _
      go_wp2_with fail
      go_roundw
      case rel => exact ⟨j + 1, by omega, by go_num, Lib.hid (by rw [HVS.out]; exact HOa.out.1), Lib.hid (by rw [HCN.out]; exact HOa.out.2), HSa⟩
      case measure => simp [intOf] <;> omega
    have hvs : Rg.vals ws (j + 1) = q0 ++ [v] := by rw [hq0]; have h1 := Rg.vals_new (w := ws) (j := j) (by rw [hv, ← hq0]; exact hm); rw [hv] at h1; exact h1
    have hz := Rg.numI_out hm
    have HF := Lib.hid hz
    have HVS := Lib.hid hvs
    clear hm hz hvs hv hq0
    go_upto_region 7 with (first | (go_at_call 36; (with_reducible refine (number_r V vc q0 v _ HQ0.out).mono ?_); rintro r wv ⟨rfl, n, rfl⟩; rw [HF.out]))
    replace HV := Lib.hid (own_drewN HV.out n)
    replace HO := Lib.hid (own_drewN HO.out n)
    replace HB := Lib.hid (below_drewN' HB.out n)
    have cbr2 : (wr.drewN n).cell? ⟨(ad.add (j * 2)).block, (ad.add (j * 2)).off + 1, none⟩ = some (.int .i64 v) := cbr
    clear HQ0 HF cbr hbs
    generalize hwd : World.drewN wr n = wy at *
    have hbs : w.heap.size ≤ wy.heap.size := HB.out.size
    clear hwd wr
    have hvn : q0.length ≤ 1099511627776 := by omega
    go_upto_region 8 with (first | (at_builtin; refine appL elI_len (by decide) rfl (.tmp 20) (.tmp 26) 22 3 _ _ rfl Try.underlying22 infoI rfl (by decide) (y := v) rfl rfl rfl rfl HV.out elI_one hvn hbs ?_; intro v7 w7 ho7 hg7 hl7 hbb7 hbs7))
    have hU7 : w7.ownsRow w.heap.size 63 2 (.slice U j uc) (Rg.canon ws j).length ((Rg.canon ws j).flatMap elD) := World.ownsRow.kept (own_keep HO.out ((Below.refl _ _).alloc (Nat.le_refl _) _)) hg7 (own_ne HO.out HV.out (by decide))
    replace HB := Lib.hid (hbb7 w.heap.size w (Nat.le_refl _) HB.out)
    rw [← HVS.out] at ho7
    obtain ⟨q, hq⟩ : ∃ q, q = Rg.vals ws (j + 1) := ⟨_, rfl⟩
    rw [← hq] at ho7 HNUM
    have HVS2 := Lib.hid hq.symm
    have hql : q.length ≤ 1152921504606846976 := by have := HVS.out; rw [← hq] at this; rw [this]; simp; omega
    obtain ⟨V2, vc2, hV2⟩ := own_slice ho7
    subst hV2
    replace HV := Lib.hid ho7
    replace HO := Lib.hid hU7
    clear hg7 hl7 hbb7 hbs7 hU7 ho7 hbs cbr2 hvn HVS hq
    obtain ⟨V, rfl⟩ : ∃ V, V = V2 := ⟨_, rfl⟩
    obtain ⟨vc, rfl⟩ : ∃ V, V = vc2 := ⟨_, rfl⟩
    have HVS := HVS2
    have HQ : Hid (∀ wx, OwnL elI 1 wx w.heap.size 3 (.slice V q.length vc) q → Rd wx V q) := Lib.hid (fun wx h => (own_rdi h hql).2)
    refine wp_region_held_drew (S := fun wx => Below w.heap.size w wx) (by kernel_rfl) (HB.out.drew) (fun hS => ?_)
    refine takeH (i := 0) (d := some 28) (v := ?_) rfl rfl (by kernel_rfl) (by kernel_rfl) (by kernel_rfl) (fun _ _ _ h => h) (Or.inl ⟨by rfl, ?_⟩) hS ?_
    rotate_left
    · intro wx hSx; clear hSx; first | (go_simp; done) | (go_simp; with_reducible rfl)
    simp only [Act.put, List.setIfInBounds_toArray, List.set_cons_zero, List.set_cons_succ]
    refine takeH (i := 1) (d := some 29) (v := ?_) rfl rfl (by kernel_rfl) (by kernel_rfl) (by kernel_rfl) (fun _ _ _ h => h) (Or.inl ⟨by rfl, ?_⟩) hS ?_
    rotate_left
    · intro wx hSx; clear hSx; first | (go_simp; done) | (go_simp; with_reducible rfl)
    simp only [Act.put, List.setIfInBounds_toArray, List.set_cons_zero, List.set_cons_succ]
    refine takeH (i := 2) (d := some 30) (v := ?_) rfl rfl (by kernel_rfl) (by kernel_rfl) (by kernel_rfl) (fun _ _ _ h => h) (Or.inl ⟨by rfl, ?_⟩) hS ?_
    rotate_left
    · intro wx hSx; clear hSx; first | (go_simp; done) | (go_simp; with_reducible rfl)
    simp only [Act.put, List.setIfInBounds_toArray, List.set_cons_zero, List.set_cons_succ]
    refine takeH (i := 3) (d := some 31) (v := ?_) rfl rfl (by kernel_rfl) (by kernel_rfl) (by kernel_rfl) (fun _ _ _ h => h) (Or.inl ⟨by rfl, ?_⟩) hS ?_
    rotate_left
    · intro wx hSx; clear hSx; first | (go_simp; done) | (go_simp; with_reducible rfl)
    simp only [Act.put, List.setIfInBounds_toArray, List.set_cons_zero, List.set_cons_succ]
    refine takeH (i := 4) (d := some 32) (v := ?_) rfl rfl (by kernel_rfl) (by kernel_rfl) (by kernel_rfl) (fun _ _ _ h => h) (Or.inl ⟨by rfl, ?_⟩) hS ?_
    rotate_left
    · intro wx hSx; clear hSx; first | (go_simp; done) | (go_simp; with_reducible rfl)
    simp only [Act.put, List.setIfInBounds_toArray, List.set_cons_zero, List.set_cons_succ]
    refine takeH (i := 5) (d := some 33) (v := ?_) rfl rfl (by kernel_rfl) (by kernel_rfl) (by kernel_rfl) (fun _ _ _ h => h) (Or.inl ⟨by rfl, ?_⟩) hS ?_
    rotate_left
    · intro wx hSx; have hSy : Below w.heap.size w wx := hSx; have e0 := keep_cell hSy ca; have e1 := keep_cell hSy cbf; clear hSy hSx; first | (go_simp; done) | (go_simp; with_reducible rfl)
    simp only [Act.put, List.setIfInBounds_toArray, List.set_cons_zero, List.set_cons_succ]
    refine takeH (i := 6) (d := some 34) (v := ?_) rfl rfl (by kernel_rfl) (by kernel_rfl) (by kernel_rfl) (fun _ _ _ h => h) (Or.inl ⟨by rfl, ?_⟩) hS ?_
    rotate_left
    · intro wx hSx; clear hSx; first | (go_simp; done) | (go_simp; with_reducible rfl)
    simp only [Act.put, List.setIfInBounds_toArray, List.set_cons_zero, List.set_cons_succ]
    refine takeH (i := 7) (d := some 35) (v := ?_) rfl rfl (by kernel_rfl) (by kernel_rfl) (by kernel_rfl) (fun _ _ _ h => h) (Or.inl ⟨by rfl, ?_⟩) hS ?_
    rotate_left
    · intro wx hSx; clear hSx; first | (go_simp; done) | (go_simp; with_reducible rfl)
    simp only [Act.put, List.setIfInBounds_toArray, List.set_cons_zero, List.set_cons_succ]
    refine takeH (i := 8) (d := some 36) (v := ?_) rfl rfl (by kernel_rfl) (by kernel_rfl) (by kernel_rfl) (fun _ _ _ h => h) (Or.inl ⟨by rfl, ?_⟩) hS ?_
    rotate_left
    · intro wx hSx; clear hSx; first | (go_simp; done) | (go_simp; with_reducible rfl)
    simp only [Act.put, List.setIfInBounds_toArray, List.set_cons_zero, List.set_cons_succ]
    refine takeH (i := 9) (d := some 37) (v := ?_) rfl rfl (by kernel_rfl) (by kernel_rfl) (by kernel_rfl) (fun _ _ _ h => h) (Or.inl ⟨by rfl, ?_⟩) hS ?_
    rotate_left
    · intro wx hSx; clear hSx; first | (go_simp; done) | (go_simp; with_reducible rfl)
    simp only [Act.put, List.setIfInBounds_toArray, List.set_cons_zero, List.set_cons_succ]
    refine takeH (i := 10) (d := some 38) (v := ?_) rfl rfl (by kernel_rfl) (by kernel_rfl) (by kernel_rfl) (fun _ _ _ h => h) (Or.inl ⟨by rfl, ?_⟩) hS ?_
    rotate_left
    · intro wx hSx; clear hSx; first | (go_simp; done) | (go_simp; with_reducible rfl)
    simp only [Act.put, List.setIfInBounds_toArray, List.set_cons_zero, List.set_cons_succ]
    refine takeH (i := 11) (d := some 39) (v := ?_) rfl rfl (by kernel_rfl) (by kernel_rfl) (by kernel_rfl) (fun _ _ _ h => h) (Or.inl ⟨by rfl, ?_⟩) hS ?_
    rotate_left
    · intro wx hSx; have hSy : Below w.heap.size w wx := hSx; have e0 := keep_cell hSy ca; have e1 := keep_cell hSy cbf; clear hSy hSx; first | (go_simp; done) | (go_simp; with_reducible rfl)
    simp only [Act.put, List.setIfInBounds_toArray, List.set_cons_zero, List.set_cons_succ]
    generalize hwa : World.drew _ = wa at hS ⊢
    have HOa : Hid (OwnL elI 1 wa w.heap.size 3 (.slice V q.length vc) q ∧ OwnL elD 2 wa w.heap.size 63 (.slice U j uc) (Rg.canon ws j)) := Lib.hid (by rw [← hwa]; exact ⟨own_drewN HV.out 1, own_drewN HO.out 1⟩)
    clear hwa
    have HSa := Lib.hid hS
    clear hS
    refine wpAnyH_ready (rs := [12]) (by kernel_rfl) (by simp) ?_
    refine AllReadyH.cons rfl (fun K hK => ?_) AllReadyH.nil
    rw [if_pos (by rfl)]
    try go_simp
    refine (number_r V vc q v wa (HQ.out wa HOa.out.1)).mono ?_
    rintro r wv ⟨rfl, n, rfl⟩
    rw [HNUM.out]
    refine hK.out _ _ (below_drewN' HSa.out n) (fun hS2 => ?_)
    clear hK K
    try simp only [Act.put, List.setIfInBounds_toArray, List.set_cons_zero, List.set_cons_succ]
    replace HOa := Lib.hid (And.intro (own_drewN HOa.out.1 n) (own_drewN HOa.out.2 n))
    replace HSa := Lib.hid hS2
    clear hS2
    generalize hwb : World.drewN wa n = wb at *
    clear hwb wa
    rename World => wa
    refine takeH (i := 13) (d := some 41) (v := ?_) rfl rfl (by kernel_rfl) (by kernel_rfl) (by kernel_rfl) (fun _ _ _ h => h) (Or.inl ⟨by rfl, ?_⟩) HSa.out ?_
    rotate_left
    · intro wx hSx; clear hSx; first | (go_simp; done) | (go_simp; with_reducible rfl)
    simp only [Act.put, List.setIfInBounds_toArray, List.set_cons_zero, List.set_cons_succ]
    refine wpAnyH_ready (rs := [14]) (by kernel_rfl) (by simp) ?_
    refine AllReadyH.cons rfl (fun K hK => ?_) AllReadyH.nil
    rw [if_pos (by rfl)]
    go_simp
    refine hK.out _ _ (Below.alloc HSa.out HSa.out.size _) (fun hS2 => ?_)
    clear hK K
    try simp only [Act.put, List.setIfInBounds_toArray, List.set_cons_zero, List.set_cons_succ]
    generalize hwb : World.alloc _ _ = wb at hS2 ⊢
    have hal : Below wa.heap.size wa wb := by rw [← hwb]; exact (Below.refl _ _).alloc (Nat.le_refl _) _
    have N1B : Hid (Blk wb wa.heap.size 63 #[.int .i64 x, .int .i64 nn]) := Lib.hid (by rw [← hwb]; exact Blk.new _ _ _)
    replace HOa := Lib.hid (And.intro (own_keep HOa.out.1 hal) (own_keep HOa.out.2 hal))
    replace HSa := Lib.hid hS2
    generalize wa.heap.size = gN1B at *
    clear hS2 hwb hal wa
    rename World => wa
    refine wpAnyH_ready (rs := [15]) (by kernel_rfl) (by simp) ?_
    refine AllReadyH.cons rfl (fun K hK => ?_) AllReadyH.nil
    rw [if_pos (by rfl)]
    obtain ⟨v7, w7, hrun7, hn7, hg7, hl7, hb7, hbad7⟩ := own_app1 (P := Try.prog) elD_len (by decide) 26 26 63 (.agg #[.int .i64 0, .int .i64 0]) 16 Try.underlying26 infoD rfl (by decide) (y := (x, nn)) rfl N1B.out HOa.out.2 elD_one hon HSa.out.size
    have hV7 := World.ownsRow.kept HOa.out.1 hg7 (own_ne HOa.out.1 HOa.out.2 (by decide))
    refine wp_app_run (.tmp 28) (.tmp 42) 26 rfl hrun7 ?_
    refine hK.out _ _ (HSa.out.trans hb7) (fun hS2 => ?_)
    clear hK K hrun7
    try simp only [Act.put, List.setIfInBounds_toArray, List.set_cons_zero, List.set_cons_succ]
    replace HSa := Lib.hid hS2
    replace HOa := Lib.hid (And.intro hV7 hn7)
    clear hS2 hV7 hn7 hg7 hl7 hb7 hbad7 N1B wa
    rename World => wa
    refine takeH (i := 16) (d := some 4) (v := ?_) rfl rfl (by kernel_rfl) (by kernel_rfl) (by kernel_rfl) (fun _ _ _ h => h) (Or.inl ⟨by rfl, ?_⟩) HSa.out ?_
    rotate_left
    · intro wx hSx; clear hSx; first | (go_simp; done) | (go_simp; with_reducible rfl)
    simp only [Act.put, List.setIfInBounds_toArray, List.set_cons_zero, List.set_cons_succ]
    refine wpAnyH_done (by kernel_rfl) ?_ _
    go_wp2_with fail
    go_roundw
    case rel => exact ⟨j + 1, by omega, by go_num, Lib.hid (by rw [HVS.out]; exact HOa.out.1), Lib.hid (by rw [HCN.out]; exact HOa.out.2), HSa⟩
    case measure => simp [intOf] <;> omega
end Go.Proofs.Ytaoebjabdejpoaa
