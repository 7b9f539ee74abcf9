/- The code's move of a register automaton. -/
import Derived.Test.YtaoebjabdejpoaaCel
namespace Go.Proofs.Ytaoebjabdejpoaa
open Go.RowKit

theorem Blk.drew {w : World} {g : Nat} {t : TypeId} {cs : Array Value} (h : Blk w g t cs) : Blk w.drew g t cs := h
set_option linter.unusedSimpArgs false
set_option maxRecDepth 100000 in
set_option maxHeartbeats 8000000 in
theorem move_p (m : Rg.M) (k s l : Nat) (r : List Int) (a : Nat) (v : Int) (A B : Option Addr) (c d : Nat) (w : World) (hok : Rg.Ok m k s) (hst : Rg.StOk m (l, r)) (ha : a < k) (hR : RdA w A B m) :
    Calls Try.prog 30 #[.agg #[.int .i64 m.I, .int .i64 m.S, .slice A m.rg.length c, .slice B m.tr.length d], .int .i64 l, .agg (pcs r), .int .i64 a, .int .i64 v] w fun e w' => e = .returned (.tuple #[.int .i64 ((Rg.nxt m (l, r) a v).1 : Nat), .agg (pcs (Rg.nxt m (l, r) a v).2), .int .i64 (Rg.tOf m (l, r) a v).out]) ∧ Below w.heap.size w w' := by
  have HM := Lib.hid hok
  have HST := Lib.hid hst
  have hl : l < m.rg.length := hst.l
  have hr4 : r.length ≤ 4 := hst.r4 hok
  have hn := hok.n128
  have h64 := hok.k64
  have HTL := Lib.hid hok.trl
  clear hok hst
  go_enter Try.func30, Try.ntmps30
  go_upto_region 1 with fail
  generalize hwb : World.alloc _ _ = w1
  have BX : Hid (BoxT w1 w.heap.size m A c B d) := Lib.hid (boxT (by rw [← hwb]; exact ((Blk.new _ _ _).alloc _).alloc _))
  have RB : Hid (Blk w1 (w.heap.size + 1) 66 (pcs r)) := Lib.hid (by rw [← hwb]; have h1 := (Blk.new (w.alloc (.cells (tc m A c B d) 25)) 66 (pcs r)).alloc (.cells (pcs []) 66); rw [asize] at h1; exact h1)
  have N11 : Hid (Blk w1 (w.heap.size + 1 + 1) 66 (pcs [])) := Lib.hid (by rw [← hwb]; have h1 := Blk.new ((w.alloc (.cells (tc m A c B d) 25)).alloc (.cells (pcs r) 66)) 66 (pcs []); rw [asize, asize] at h1; exact h1)
  have HBL : Hid (Below w.heap.size w w1) := Lib.hid (by rw [← hwb]; exact (((Below.refl _ _).alloc (Nat.le_refl _) _).alloc (by simp) _).alloc (by simp; omega) _)
  have HR := Lib.hid (hR.keep HBL.out)
  clear hwb hR
  have c2 := BX.out.c2
  have c3 := BX.out.c3
  obtain ⟨ad, r0, rfl, hr0, cr⟩ := HR.out.rg.at_ hl
  have hrr : r0 = (r.length : Int) := by have := HST.out.r; rw [← hr0]; exact this.symm
  subst hrr
  clear hr0
  have mn := HR.out.rg.1
  have hli : (l : Int) < (m.rg.length : Int) := by omega
  generalize hg1 : w.heap.size + 1 = g1 at *
  generalize hg11 : g1 + 1 = g11 at *
  have hge11 : w.heap.size ≤ g11 := by omega
  have hge1 : w.heap.size ≤ g1 := by omega
  have hg1lt : g1 < w1.heap.size := RB.out.lt
  have hg11lt : g11 < w1.heap.size := N11.out.lt
  have hne : g1 ≠ g11 := by omega
  clear hg1 hg11
  go_upto_region 3 with fail
  clear cr c2
  go_loopw [13, 14] (fun iv pv wr => ∃ p : Nat, p ≤ r.length ∧ pv = .int .i64 p ∧ iv = .int .i64 (Rg.fndU r v p : Nat) ∧ w1 = wr) (fun _ pv _ => (intOf pv).toNat)
  case atStart => exact ⟨r.length, Nat.le_refl _, rfl, by rw [Rg.fndU_end]; rfl, rfl⟩
  case round =>
    obtain ⟨p, hp, rfl, rfl, rfl⟩ := hrel
    by_cases hp0 : 1 ≤ p
    · obtain ⟨q, rfl⟩ : ∃ q, p = q + 1 := ⟨p - 1, by omega⟩
      have hq : q < r.length := by omega
      have hq4 : q < 4 := by omega
      have cq := blk_pcs RB.out hq4
      obtain ⟨u, hu⟩ : ∃ u, u = r.getD q 0 := ⟨_, rfl⟩
      rw [← hu] at cq
      have hqi : (1 : Int) ≤ (q : Int) + 1 := by omega
      have hq4i : (q : Int) < 4 := by omega
      by_cases huv : u = v
      · have HN := Lib.hid (Rg.fndU_yes hq (hu.symm.trans huv))
        have e1 : (u == v) = true := by rw [beq_iff_eq]; exact huv
        clear huv hu
        go_wp2
        go_roundw
        case rel => exact ⟨q, by omega, by go_num, by rw [HN.out], trivial⟩
        case measure => simp [intOf] <;> omega
      · have HN := Lib.hid (Rg.fndU_no hq (fun h => huv (hu.trans h)))
        have e1 : (u == v) = false := beq_eq_false_iff_ne.2 huv
        clear huv hu
        go_wp2
        go_roundw
        case rel => exact ⟨q, by omega, by go_num, by rw [HN.out], trivial⟩
        case measure => simp [intOf] <;> omega
    obtain rfl : p = 0 := by omega
    rw [Rg.fndU_0]
    obtain ⟨f, hf⟩ : ∃ f, f = Rg.fnd r v := ⟨_, rfl⟩
    have hfl : f ≤ r.length := by rw [hf]; exact Rg.fnd_le r v
    rw [← hf]
    have hlt2 : l < m.tr.length := by have := HTL.out; omega
    have hlmi : (l : Int) < (m.tr.length : Int) := by omega
    obtain ⟨b1, D1, d1, xs, rfl, hx, cx, rx⟩ := HR.out.tr.at_ hlt2
    have hxl : xs.length = k := by rw [← hx]; exact HM.out.loc l hl
    have hax : a < xs.length := by omega
    have haxi : (a : Int) < (xs.length : Int) := by omega
    obtain ⟨b2, D2, d2, ys, rfl, hy, cy, ry⟩ := rx.at_ hax
    have HCT : Hid (Rg.cellT m l a = ys) := Lib.hid (by unfold Rg.cellT; rw [hx]; exact hy)
    have hyl : (ys.length : Int) = (r.length : Int) + 1 := by
      have h1 := HM.out.row l a hl ha
      rw [HCT.out] at h1
      have h2 : (r.length : Int) = Rg.nr m l := HST.out.r
      omega
    have hfy : f < ys.length := by omega
    have hfyi : (f : Int) < (ys.length : Int) := by omega
    obtain ⟨b3, C3, e3, x, y, zs, rfl, ht, t0, t1, t2, rz⟩ := ry.at_ hfy
    have HTR : Hid (Rg.tOf m (l, r) a v = ⟨x, y, zs⟩) := Lib.hid (by unfold Rg.tOf Rg.trans; show (Rg.cellT m l a).getD (Rg.fnd r v) Rg.t0 = _; rw [HCT.out, ← hf]; exact ht)
    have HTO := Lib.hid (Rg.tOf_ok HM.out HST.out ha v)
    rw [HTR.out] at HTO
    obtain ⟨xn, rfl⟩ : ∃ n : Nat, x = n := ⟨x.toNat, by have := HTO.out.to0; dsimp only at this; omega⟩
    have hzr : zs.length ≤ 4 := by
      have h1 := (Rg.nxt_ok HM.out HST.out ha v).r4 HM.out
      unfold Rg.nxt at h1
      rw [HTR.out] at h1
      simpa using h1
    have HZ := Lib.hid rz
    have hcc := cells3 t0 t1 t2
    have my := ry.1
    have mx := rx.1
    clear hx hxl hy hyl ht rx ry rz t0 t1 t2 hf hlt2
    go_upto_region 9 with (refine wpList_load_any rfl 94 _ rfl (b3.add (f * 3)) rfl [.int .i64 (xn : Nat), .int .i64 y, .slice C3 zs.length e3] _ hcc Try.underlying94 rfl (by kernel_rfl) ?_)
    clear hcc cx cy c3
    generalize hwb : World.alloc _ _ = w2
    have KT : Hid (Blk w2 w1.heap.size 94 #[.int .i64 (xn : Nat), .int .i64 y, .slice C3 zs.length e3]) := Lib.hid (by rw [← hwb]; exact (Blk.new _ _ _).alloc _)
    have NX0 : Hid (Blk w2 (w1.heap.size + 1) 66 (pcs (Rg.subs r v zs 0))) := Lib.hid (by rw [← hwb, Rg.subs_0]; have h1 := Blk.new (w1.alloc (.cells #[.int .i64 (xn : Nat), .int .i64 y, .slice C3 zs.length e3] 94)) 66 (pcs []); rw [asize] at h1; exact h1)
    have HB0 : Hid (Below w1.heap.size w1 w2) := Lib.hid (by rw [← hwb]; exact ((Below.refl _ _).alloc (Nat.le_refl _) _).alloc (by rw [asize]; omega) _)
    clear hwb
    generalize hgt : w1.heap.size = gt at *
    generalize hgn : gt + 1 = gn at *
    have hne1 : gt ≠ g11 := by omega
    have hne2 : gn ≠ g11 := by omega
    have hne3 : g1 ≠ gn := by omega
    have hne4 : gt ≠ gn := by omega
    have hge : gt ≤ gn := by omega
    have hk2 := KT.out.cell 2
    have HBR : Hid (∀ wz, Below gt w1 wz → Blk wz g1 66 (pcs r) ∧ Blk wz g11 66 (pcs []) ∧ Rd wz C3 zs) := Lib.hid (fun wz hz => ⟨RB.out.below hz (by omega), N11.out.below hz (by omega), HZ.out.keep (hgt ▸ hz)⟩)
    have mz := HZ.out.1
    go_upto_region 10 with fail
    clear hk2
    go_loopw [49] (fun jv wr => ∃ j : Nat, j ≤ zs.length ∧ jv = .int .i64 j ∧ Hid (Blk wr gt 94 #[.int .i64 (xn : Nat), .int .i64 y, .slice C3 zs.length e3]) ∧ Hid (Blk wr gn 66 (pcs (Rg.subs r v zs j))) ∧ Hid (Below gt w1 wr)) (fun jv _ => zs.length - (intOf jv).toNat)
    case atStart => exact ⟨0, Nat.zero_le _, rfl, KT, NX0, HB0⟩
    case round =>
      clear KT NX0 HB0
      obtain ⟨j, hj, rfl, KT, NX, HB⟩ := hrel
      clear w2
      rename World => wy
      obtain ⟨hb1, hb2, hb3⟩ := HBR.out wy HB.out
      by_cases hjl : j < zs.length
      · obtain ⟨az, z, rfl, hz, cz⟩ := hb3.at_ hjl
        have hji : (j : Int) < (zs.length : Int) := by omega
        have hj4 : (j : Int) < 4 := by omega
        have hj4n : j < 4 := by omega
        have hza := HTO.out.asg j hjl
        rw [hz] at hza
        have hsl := Rg.subs_len r v zs (j := j) (by omega)
        have hss := Rg.subs_succ (r := r) (v := v) hjl hz
        have hrr2 : (r.length : Int) = Rg.nr m l := HST.out.r
        have fz := NX.out.frozen j
        have cn := blk_pcs NX.out hj4n
        by_cases hz0 : z = 0
        · subst hz0
          rw [Rg.sub_0] at hss
          have HSS := Lib.hid hss
          have HSL := Lib.hid hsl
          clear hz hza hsl hss hrr2
          go_upto_region 15 with fail
          generalize hwb : World.setCell _ _ _ = wb
          have NX2 : Hid (Blk wb gn 66 (pcs (Rg.subs r v zs (j + 1)))) := Lib.hid (by rw [← hwb, HSS.out, ← pcs_set HSL.out hj4n]; exact NX.out.set_ _ _)
          have KT2 := Lib.hid (show Blk wb gt 94 _ by rw [← hwb]; exact KT.out.far (p := ⟨gn, j, none⟩) hne4 _)
          have HB2 : Hid (Below gt w1 wb) := Lib.hid (by rw [← hwb]; exact below_set HB.out (p := ⟨gn, j, none⟩) hge _)
          clear hwb NX KT HB
          go_wp2_with fail
          go_roundw
          case rel => exact ⟨j + 1, by omega, by go_num, KT2, NX2, HB2⟩
          case measure => simp [intOf] <;> omega
        · obtain ⟨q, rfl⟩ : ∃ q : Nat, z = ((q + 1 : Nat) : Int) := ⟨z.toNat - 1, by omega⟩
          have hq : q < r.length := by omega
          have hq4 : q < 4 := by omega
          have hq4i : (q : Int) < 4 := by omega
          have cq := blk_pcs hb1 hq4
          rw [Rg.sub_at] at hss
          obtain ⟨u, hu⟩ : ∃ u, u = r.getD q 0 := ⟨_, rfl⟩
          rw [← hu] at hss cq
          have HSS := Lib.hid hss
          have HSL := Lib.hid hsl
          have e1 : (((q + 1 : Nat) : Int) == 0) = false := beq_eq_false_iff_ne.2 hz0
          have e2 : ((q : Int) + 1 == 0) = false := beq_eq_false_iff_ne.2 (by omega)
          clear hz hza hsl hss hrr2 hz0 hu
          go_upto_region 15 with fail
          generalize hwb : World.setCell _ _ _ = wb
          have NX2 : Hid (Blk wb gn 66 (pcs (Rg.subs r v zs (j + 1)))) := Lib.hid (by rw [← hwb, HSS.out, ← pcs_set HSL.out hj4n]; exact NX.out.set_ _ _)
          have KT2 := Lib.hid (show Blk wb gt 94 _ by rw [← hwb]; exact KT.out.far (p := ⟨gn, j, none⟩) hne4 _)
          have HB2 : Hid (Below gt w1 wb) := Lib.hid (by rw [← hwb]; exact below_set HB.out (p := ⟨gn, j, none⟩) hge _)
          clear hwb NX KT HB
          go_wp2_with fail
          go_roundw
          case rel => exact ⟨j + 1, by omega, by go_num, KT2, NX2, HB2⟩
          case measure => simp [intOf] <;> omega
      obtain rfl : j = zs.length := by omega
      obtain ⟨ys2, hys⟩ : ∃ q, q = zs.map (Rg.sub r v) := ⟨_, rfl⟩
      have NXa : Hid (Blk wy gn 66 (pcs ys2)) := Lib.hid (by have h1 := NX.out; rw [Rg.subs_all, ← hys] at h1; exact h1)
      have HFIN : Hid ((Rg.nxt m (l, r) a v).1 = xn ∧ (Rg.nxt m (l, r) a v).2 = ys2 ∧ (Rg.tOf m (l, r) a v).out = y) := Lib.hid (by
        unfold Rg.nxt
        rw [HTR.out, hys]
        exact ⟨Int.toNat_natCast _, rfl, rfl⟩)
      have HBW : Hid (Below w.heap.size w wy) := Lib.hid (HBL.out.trans (HB.out.mono (by omega)))
      clear hys NX hb3 hb1 HB
      go_upto_region 16 with fail
      refine wp_region_held_drew (S := fun wx => (∃ cs, cs.size = 4 ∧ Blk wx g11 66 cs) ∧ Blk wx gt 94 #[.int .i64 (xn : Nat), .int .i64 y, .slice C3 zs.length e3] ∧ Blk wx gn 66 (pcs ys2) ∧ Below w.heap.size w wx) (by kernel_rfl) (⟨⟨_, rfl, hb2.drew⟩, KT.out.drew, NXa.out.drew, HBW.out.drew⟩) (fun hS => ?_)
      refine takeH (i := 0) (d := some 66) (v := ?_) rfl rfl (by kernel_rfl) (by kernel_rfl) (by kernel_rfl) (fun _ _ _ h => h) (Or.inl ⟨by rfl, ?_⟩) hS ?_
      rotate_left
      · intro wx hSx; clear hSx; first | (go_simp; done) | (go_simp; with_reducible rfl)
      simp only [Act.put, List.setIfInBounds_toArray, List.set_cons_zero, List.set_cons_succ]
      refine takeH (i := 1) (d := some 67) (v := ?_) rfl rfl (by kernel_rfl) (by kernel_rfl) (by kernel_rfl) (fun _ _ _ h => h) (Or.inl ⟨by rfl, ?_⟩) hS ?_
      rotate_left
      · intro wx hSx; have k0 := hSx.2.1.cell 0; have k1 := hSx.2.1.cell 1; clear hSx; first | (go_simp; done) | (go_simp; with_reducible rfl)
      simp only [Act.put, List.setIfInBounds_toArray, List.set_cons_zero, List.set_cons_succ]
      refine takeH (i := 2) (d := some 68) (v := .agg (pcs ys2)) rfl rfl (by kernel_rfl) (by kernel_rfl) (by kernel_rfl) (fun _ _ _ h => h) (yieldsIf_load_any (by rfl) 66 _ rfl ⟨gn, 0, none⟩ rfl (pcs ys2).toList _ (fun wx hSx => (hSx.2.2.1.part 0 _ rfl)) Try.underlying66 rfl (by kernel_rfl)) hS ?_
      simp only [Act.put, List.setIfInBounds_toArray, List.set_cons_zero, List.set_cons_succ]
      refine takeH (i := 3) (d := some 69) (v := ?_) rfl rfl (by kernel_rfl) (by kernel_rfl) (by kernel_rfl) (fun _ _ _ h => h) (Or.inl ⟨by rfl, ?_⟩) hS ?_
      rotate_left
      · intro wx hSx; clear hSx; first | (go_simp; done) | (go_simp; with_reducible rfl)
      simp only [Act.put, List.setIfInBounds_toArray, List.set_cons_zero, List.set_cons_succ]
      refine takeH (i := 4) (d := some 70) (v := ?_) rfl rfl (by kernel_rfl) (by kernel_rfl) (by kernel_rfl) (fun _ _ _ h => h) (Or.inl ⟨by rfl, ?_⟩) hS ?_
      rotate_left
      · intro wx hSx; have k0 := hSx.2.1.cell 0; have k1 := hSx.2.1.cell 1; clear hSx; first | (go_simp; done) | (go_simp; with_reducible rfl)
      simp only [Act.put, List.setIfInBounds_toArray, List.set_cons_zero, List.set_cons_succ]
      refine takeH (i := 5) (d := some 10) (v := ?_) rfl rfl (by kernel_rfl) (by kernel_rfl) (by kernel_rfl) (fun _ _ _ h => h) (Or.inl ⟨by rfl, ?_⟩) hS ?_
      rotate_left
      · intro wx hSx; clear hSx; first | (go_simp; done) | (go_simp; with_reducible rfl)
      simp only [Act.put, List.setIfInBounds_toArray, List.set_cons_zero, List.set_cons_succ]
      generalize hwa : World.drew _ = wa at hS ⊢
      clear hwa
      have HSa := Lib.hid hS
      clear hS
      refine wpAnyH_ready (rs := [6]) (by kernel_rfl) (by simp) ?_
      refine AllReadyH.cons rfl (fun K hK => ?_) AllReadyH.nil
      rw [if_pos (by rfl)]
      obtain ⟨cs0, hc0, N0⟩ := HSa.out.1
      refine wp_store_row 66 _ _ rfl g11 (pcs ys2) rfl rfl 66 _ N0 (by kernel_rfl) hc0 (pcs_one _) ?_
      refine hK.out _ _ ⟨⟨_, rfl, set_row_blk N0⟩, far_row_blk HSa.out.2.1 hne1, far_row_blk HSa.out.2.2.1 hne2, below_row HSa.out.2.2.2 hge11 _⟩ (fun hS2 => ?_)
      clear hK K
      change wpAnyH _ _ _ _ _ _ _ (Act.put _ none _) _
      try simp only [Act.put]
      generalize hwb : World.setRow _ _ _ = wb at hS2 ⊢
      have N11b : Hid (Blk wb g11 66 (pcs ys2)) := Lib.hid (by rw [← hwb]; exact set_row_blk N0)
      replace HSa := Lib.hid hS2
      clear hS2 hwb N0 hc0 wa
      rename World => wa
      refine takeH (i := 7) (d := some 12) (v := ?_) rfl rfl (by kernel_rfl) (by kernel_rfl) (by kernel_rfl) (fun _ _ _ h => h) (Or.inl ⟨by rfl, ?_⟩) HSa.out ?_
      rotate_left
      · intro wx hSx; clear hSx; first | (go_simp; done) | (go_simp; with_reducible rfl)
      simp only [Act.put, List.setIfInBounds_toArray, List.set_cons_zero, List.set_cons_succ]
      refine wpAnyH_done (by kernel_rfl) ?_ _
      go_wp2_with fail
      refine ret_c121 N11b.out rfl rfl Try.underlying66 rfl (by kernel_rfl) rfl ?_
      exact ⟨by rw [HFIN.out.1, HFIN.out.2.1, HFIN.out.2.2]; rfl, HSa.out.2.2.2⟩
end Go.Proofs.Ytaoebjabdejpoaa
