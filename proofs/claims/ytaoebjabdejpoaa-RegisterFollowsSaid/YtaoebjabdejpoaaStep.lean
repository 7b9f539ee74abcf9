/- The reference's step of a register automaton. -/
import Derived.Test.YtaoebjabdejpoaaMove
import Derived.Test.YtaoebjabdejpoaaKt
import Derived.Test.YtaoebjabdejpoaaHel
namespace Go.Proofs.Ytaoebjabdejpoaa
open Go.RowKit

set_option linter.unusedSimpArgs false
set_option maxRecDepth 100000 in
set_option maxHeartbeats 8000000 in
theorem step_r (m : Rg.M) (k s l : Nat) (r : List Int) (a : Nat) (v N : Int) (A B R : Option Addr) (c d rc : Nat) (w : World) (hok : Rg.Ok m k s) (hst : Rg.StOk m (l, r)) (ha : a < k) (hR : RdA w A B m) (hr : Rd w R r) :
    Calls Try.prog 31 #[.agg #[.int .i64 m.I, .int .i64 m.S, .slice A m.rg.length c, .slice B m.tr.length d], .agg #[.int .i64 l, .slice R r.length rc, .int .i64 N], .int .i64 a, .int .i64 v] w fun e w' =>
      (∃ u, e = .returned (.tuple #[.agg #[.int .i64 ((Rg.nxt m (l, r) a v).1 : Nat), u, .int .i64 N], .int .i64 (Rg.tOf m (l, r) a v).out]) ∧ OwnL elI 1 w' w.heap.size 3 u (Rg.nxt m (l, r) a v).2) ∧ Below w.heap.size w w' := by
  have HM := Lib.hid hok
  have HST := Lib.hid hst
  have hl : l < m.rg.length := hst.l
  have hr4 : r.length ≤ 4 := hst.r4 hok
  have hn := hok.n128
  have h64 := hok.k64
  have HTL := Lib.hid hok.trl
  clear hok hst
  go_enter Try.func31, Try.ntmps31
  go_upto_region 1 with fail
  generalize hwb : World.alloc _ _ = w1
  have BX : Hid (BoxT w1 w.heap.size m A c B d) := Lib.hid (boxT (by rw [← hwb]; exact ((Blk.new _ _ _).alloc _).alloc _))
  have RB : Hid (Blk w1 (w.heap.size + 1) 70 #[.int .i64 l, .slice R r.length rc, .int .i64 N]) := Lib.hid (by rw [← hwb]; have h1 := (Blk.new (w.alloc (.cells (tc m A c B d) 25)) 70 #[.int .i64 l, .slice R r.length rc, .int .i64 N]).alloc (.cells #[.int .i64 0, .slice none 0 0, .int .i64 0] 70); rw [asize] at h1; exact h1)
  have N8 : Hid (Blk w1 (w.heap.size + 1 + 1) 70 #[.int .i64 0, .slice none 0 0, .int .i64 0]) := Lib.hid (by rw [← hwb]; have h1 := Blk.new ((w.alloc (.cells (tc m A c B d) 25)).alloc (.cells #[.int .i64 l, .slice R r.length rc, .int .i64 N] 70)) 70 #[.int .i64 0, .slice none 0 0, .int .i64 0]; rw [asize, asize] at h1; exact h1)
  have HBL : Hid (Below w.heap.size w w1) := Lib.hid (by rw [← hwb]; exact (((Below.refl _ _).alloc (Nat.le_refl _) _).alloc (by simp) _).alloc (by simp; omega) _)
  have HR := Lib.hid (hR.keep HBL.out)
  have HRR := Lib.hid (hr.keep HBL.out)
  clear hwb hR hr
  have c3 := BX.out.c3
  have s0 := RB.out.cell 0
  have s1 := RB.out.cell 1
  have s2 := RB.out.cell 2
  have mn := HR.out.rg.1
  have mr := HRR.out.1
  generalize hgs : w.heap.size + 1 = gs at *
  generalize hg8 : gs + 1 = g8 at *
  have hge8 : w.heap.size ≤ g8 := by omega
  have hg8lt : g8 < w1.heap.size := N8.out.lt
  clear hgs hg8
  go_upto_region 3 with fail
  go_loopw [10, 11] (fun iv pv wr => ∃ p : Nat, p ≤ r.length ∧ pv = .int .i64 p ∧ iv = .int .i64 (Rg.fndU r v p : Nat) ∧ w1 = wr) (fun _ pv _ => (intOf pv).toNat)
  case atStart => exact ⟨r.length, Nat.le_refl _, rfl, by rw [Rg.fndU_end]; rfl, rfl⟩
  case round =>
    obtain ⟨p, hp, rfl, rfl, rfl⟩ := hrel
    by_cases hp0 : 0 < p
    · obtain ⟨q, rfl⟩ : ∃ q, p = q + 1 := ⟨p - 1, by omega⟩
      have hq : q < r.length := by omega
      obtain ⟨ar, u, rfl, hu, cq⟩ := HRR.out.at_ hq
      have hqi : (0 : Int) < (q : Int) + 1 := by omega
      have hql : (q : Int) < (r.length : Int) := by omega
      by_cases huv : u = v
      · have HN := Lib.hid (Rg.fndU_yes hq (hu.trans huv))
        have e1 : (u == v) = true := by rw [beq_iff_eq]; exact huv
        clear huv hu
        go_wp2
        go_roundw
        case rel => exact ⟨q, by omega, by go_num, by rw [HN.out], trivial⟩
        case measure => simp [intOf] <;> omega
      · have HN := Lib.hid (Rg.fndU_no hq (fun h => huv (hu.symm.trans h)))
        have e1 : (u == v) = false := beq_eq_false_iff_ne.2 huv
        clear huv hu
        go_wp2
        go_roundw
        case rel => exact ⟨q, by omega, by go_num, by rw [HN.out], trivial⟩
        case measure => simp [intOf] <;> omega
    obtain rfl : p = 0 := by omega
    rw [Rg.fndU_0]
    obtain ⟨f, hf⟩ : ∃ f, f = Rg.fnd r v := ⟨_, rfl⟩
    have hfl : f ≤ r.length := by rw [hf]; exact Rg.fnd_le r v
    rw [← hf]
    have hlt2 : l < m.tr.length := by have := HTL.out; omega
    have hlmi : (l : Int) < (m.tr.length : Int) := by omega
    obtain ⟨b1, D1, d1, xs, rfl, hx, cx, rx⟩ := HR.out.tr.at_ hlt2
    have hxl : xs.length = k := by rw [← hx]; exact HM.out.loc l hl
    have hax : a < xs.length := by omega
    have haxi : (a : Int) < (xs.length : Int) := by omega
    obtain ⟨b2, D2, d2, ys, rfl, hy, cy, ry⟩ := rx.at_ hax
    have HCT : Hid (Rg.cellT m l a = ys) := Lib.hid (by unfold Rg.cellT; rw [hx]; exact hy)
    have hyl : (ys.length : Int) = (r.length : Int) + 1 := by
      have h1 := HM.out.row l a hl ha
      rw [HCT.out] at h1
      have h2 : (r.length : Int) = Rg.nr m l := HST.out.r
      omega
    have hfy : f < ys.length := by omega
    have hfyi : (f : Int) < (ys.length : Int) := by omega
    obtain ⟨b3, C3, e3, x, y, zs, rfl, ht, t0, t1, t2, rz⟩ := ry.at_ hfy
    have HTR : Hid (Rg.tOf m (l, r) a v = ⟨x, y, zs⟩) := Lib.hid (by unfold Rg.tOf Rg.trans; show (Rg.cellT m l a).getD (Rg.fnd r v) Rg.t0 = _; rw [HCT.out, ← hf]; exact ht)
    have HTO := Lib.hid (Rg.tOf_ok HM.out HST.out ha v)
    rw [HTR.out] at HTO
    obtain ⟨xn, rfl⟩ : ∃ n : Nat, x = n := ⟨x.toNat, by have := HTO.out.to0; dsimp only at this; omega⟩
    have hzr : zs.length ≤ 4 := by
      have h1 := (Rg.nxt_ok HM.out HST.out ha v).r4 HM.out
      unfold Rg.nxt at h1
      rw [HTR.out] at h1
      simpa using h1
    have HZ := Lib.hid rz
    have hcc := cells3 t0 t1 t2
    have my := ry.1
    have mx := rx.1
    clear hx hxl hy hyl ht rx ry rz t0 t1 t2 hf hlt2
    go_upto_region 8 with (refine wpList_load_any rfl 94 _ rfl (b3.add (f * 3)) rfl [.int .i64 (xn : Nat), .int .i64 y, .slice C3 zs.length e3] _ hcc Try.underlying94 rfl (by kernel_rfl) ?_)
    clear hcc cx cy c3
    generalize hwb : World.alloc _ _ = w2
    have KT : Hid (Blk w2 w1.heap.size 94 #[.int .i64 (xn : Nat), .int .i64 y, .slice C3 zs.length e3]) := Lib.hid (by rw [← hwb]; exact Blk.new _ _ _)
    have hal : Below w1.heap.size w1 w2 := by rw [← hwb]; exact (Below.refl _ _).alloc (Nat.le_refl _) _
    generalize hgt : w1.heap.size = gt at *
    have hne8t : gt ≠ g8 := by omega
    have HB12 : Hid (Below w.heap.size w w2) := Lib.hid (HBL.out.trans (hal.mono (by have := HBL.out.size; omega)))
    have HS1 : Hid (w2.cell? ⟨gs, 1, none⟩ = some (.slice R r.length rc)) := Lib.hid (keep_cell (hgt ▸ hal) s1)
    have s2' := keep_cell (hgt ▸ hal) s2
    have HRR2 := Lib.hid (HRR.out.keep (hgt ▸ hal))
    have HZ2 := Lib.hid (HZ.out.keep (hgt ▸ hal))
    have H82 := Lib.hid (N8.out.keep (hgt ▸ hal))
    have mz := HZ.out.1
    have k0 := KT.out.cell 0
    clear hwb hal s0 s1 s2 hgt
    have KZ := Blk.new w2 70 #[.int .i64 0, .slice none 0 0, .int .i64 0]
    go_upto_region 10 with (first | (refine wpList_store_row rfl 70 _ _ rfl w2.heap.size #[.int .i64 (xn : Nat), .slice none 0 0, .int .i64 N] rfl rfl 70 _ KZ (by kernel_rfl) rfl (by simp [Value.oneCell']) ?_))
    clear k0 s2'
    generalize hwb : World.setRow _ _ _ = w3
    have NX0 : Hid (Blk w3 w2.heap.size 70 #[.int .i64 (xn : Nat), .slice none 0 0, .int .i64 N]) := Lib.hid (by rw [← hwb]; exact set_row_blk KZ)
    have HB0 : Hid (Below w2.heap.size w2 w3) := Lib.hid (by rw [← hwb]; exact below_row ((Below.refl _ _).alloc (Nat.le_refl _) _) (Nat.le_refl _) _)
    have HT2 := Lib.hid (KT.out.cell 2)
    obtain ⟨gn, hgn'⟩ : ∃ gn, gn = w2.heap.size := ⟨_, rfl⟩
    have hgn : w2.heap.size ≤ gn := by omega
    have hne8n : gn ≠ g8 := by have := H82.out.lt; omega
    rw [← hgn'] at NX0 ⊢
    have hgw : w.heap.size ≤ w2.heap.size := HB12.out.size
    clear hwb KZ hgn'
    go_loopw [14] (fun jv wr => ∃ (j : Nat) (V : Value), j ≤ zs.length ∧ jv = .int .i64 j ∧ Hid (Blk wr gn 70 #[.int .i64 (xn : Nat), V, .int .i64 N]) ∧ Hid (OwnL elI 1 wr w2.heap.size 3 V (Rg.subs r v zs j)) ∧ Hid (Below w2.heap.size w2 wr)) (fun jv _ => zs.length - (intOf jv).toNat)
    case atStart => exact ⟨0, _, Nat.zero_le _, rfl, NX0, Lib.hid (by rw [Rg.subs_0]; exact World.ownsRow_nil _ _ _ _), HB0⟩
    case round =>
      clear NX0 HB0
      obtain ⟨j, V0, hj, rfl, NX, HO, HB⟩ := hrel
      clear w3
      rename World => wy
      obtain ⟨V, vc, rfl⟩ := own_slice HO.out
      have hsl := Rg.subs_len r v zs (j := j) hj
      have KTy := KT.out.below HB.out (by have := KT.out.lt; omega)
      have k2 := KTy.cell 2
      by_cases hjl : j < zs.length
      · obtain ⟨az, z, rfl, hz, cz⟩ := HZ2.out.at_ hjl
        have hji : (j : Int) < (zs.length : Int) := by omega
        have hza := HTO.out.asg j hjl
        rw [hz] at hza
        have hss := Rg.subs_succ (r := r) (v := v) hjl hz
        have HSL7 := Lib.hid (Rg.subs_len r v zs (j := j + 1) hjl)
        have hrr2 : (r.length : Int) = Rg.nr m l := HST.out.r
        obtain ⟨ys, hys⟩ : ∃ ys, ys = Rg.subs r v zs j := ⟨_, rfl⟩
        rw [← hys] at HO NX hsl hss
        have hyl : ys.length ≤ 1099511627776 := by omega
        have hsz : w2.heap.size ≤ wy.heap.size := HB.out.size
        by_cases hz0 : z = 0
        · subst hz0
          rw [Rg.sub_0] at hss
          have HSS := Lib.hid hss
          have czy := keep_cell HB.out cz
          have n1 := NX.out.cell 1
          clear hz hza hsl hss hrr2 hys cz KTy
          go_upto_region 11 with (first | (at_builtin; refine appL elI_len (by decide) rfl (.tmp 62) (.tmp 64) 22 3 _ _ rfl Try.underlying22 infoI rfl (by decide) (y := v) rfl rfl rfl rfl HO.out elI_one hyl hsz ?_; intro v7 w7 ho7 hg7 hl7 hbb7 hbs7; rw [← HSS.out] at ho7; obtain ⟨V7, c7, hv7⟩ := own_slice ho7; rw [HSL7.out] at hv7; subst hv7; have NX7 := Lib.hid ((NX.out.alloc _).grown hg7 (fun e => own_blk_ne HO.out NX.out (by decide) e.symm)); have y1 := NX7.out.cell 1; have f1 := NX7.out.frozen 1))
          clear y1 f1 czy n1 k2
          generalize hwb : World.setCell _ _ _ = wb
          have NX2 : Hid (Blk wb gn 70 #[.int .i64 (xn : Nat), .slice V7 (j + 1) c7, .int .i64 N]) := Lib.hid (by rw [← hwb]; exact NX7.out.set_ _ _)
          have HO2 : Hid (OwnL elI 1 wb w2.heap.size 3 (.slice V7 (j + 1) c7) (Rg.subs r v zs (j + 1))) := Lib.hid (by exact own_kt (bad := isT 70) ho7 (by rw [← hwb]; exact Kt.set (p := ⟨gn, 1, none⟩) NX7.out.isT_) (isT_ne (by decide)))
          have HB2 : Hid (Below w2.heap.size w2 wb) := Lib.hid (by rw [← hwb]; exact below_set (hbb7 _ _ (Nat.le_refl _) HB.out) (p := ⟨gn, 1, none⟩) hgn _)
          clear hwb NX HO HB NX7 ho7 hg7 hl7 hbb7 hbs7
          go_wp2_with fail
          go_roundw
          case rel => exact ⟨j + 1, _, by omega, by go_num, NX2, HO2, HB2⟩
          case measure => simp [intOf] <;> omega
        · obtain ⟨q, rfl⟩ : ∃ q : Nat, z = ((q + 1 : Nat) : Int) := ⟨z.toNat - 1, by omega⟩
          have hq : q < r.length := by omega
          have hql : (q : Int) < (r.length : Int) := by omega
          obtain ⟨ar, u, rfl, hu, cq⟩ := HRR2.out.at_ hq
          rw [Rg.sub_at, hu] at hss
          have HSS := Lib.hid hss
          have HCZ : Hid (w2.cell? (az.add j) = some (.int .i64 ((q : Int) + 1))) := Lib.hid (by rw [cz]; rfl)
          have HCQ := Lib.hid cq
          have czy := keep_cell HB.out HCZ.out
          have e2 : ((q : Int) + 1 == 0) = false := beq_eq_false_iff_ne.2 (by omega)
          have hwq : IntKind.i64.wrap (q : Int) = q := IntWalk.i64_in (q : Int) (by omega)
          have HI0 := Lib.hid (And.intro HO.out (And.intro NX.out HB.out))
          clear hz hza hsl hss hrr2 hys cz cq hu hz0 KTy NX HO HB
          go_upto_region 14 with fail
          clear czy e2 k2
          refine wp_region_L (late := [15]) (Y := fun wx => wx.cell? ⟨gn, 1, none⟩ = some (.slice V ys.length vc) ∧ wx.cell? ⟨gs, 1, none⟩ = some (.slice (some ar) r.length rc) ∧ wx.cell? ⟨gt, 2, none⟩ = some (.slice (some az) zs.length e3) ∧ wx.cell? (az.add j) = some (.int .i64 ((q : Int) + 1)) ∧ wx.cell? (ar.add q) = some (.int .i64 u)) (by kernel_rfl) (⟨HI0.out.2.1.cell 1, keep_cell HI0.out.2.2.drew HS1.out, keep_cell HI0.out.2.2.drew HT2.out, keep_cell HI0.out.2.2.drew HCZ.out, keep_cell HI0.out.2.2.drew HCQ.out⟩) (fun hS => ?_)
          refine takeL (i := 0) (d := some 67) (v := ?_) rfl rfl (by kernel_rfl) (by kernel_rfl) (by kernel_rfl) (by kernel_rfl) (by kernel_rfl) (fun _ _ _ h => h) (Or.inl ⟨by rfl, ?_⟩) hS ?_
          rotate_left
          · intro wx hSx; clear hSx; first | (go_simp; done) | (go_simp; with_reducible rfl)
          simp only [Act.put, List.setIfInBounds_toArray, List.set_cons_zero, List.set_cons_succ]
          refine takeL (i := 1) (d := some 68) (v := ?_) rfl rfl (by kernel_rfl) (by kernel_rfl) (by kernel_rfl) (by kernel_rfl) (by kernel_rfl) (fun _ _ _ h => h) (Or.inl ⟨by rfl, ?_⟩) hS ?_
          rotate_left
          · intro wx hSx; have e0 := hSx.1; have e1 := hSx.2.1; have e2 := hSx.2.2.1; have e3 := hSx.2.2.2.1; have e4 := hSx.2.2.2.2; clear hSx; first | (go_simp; done) | (go_simp; with_reducible rfl)
          simp only [Act.put, List.setIfInBounds_toArray, List.set_cons_zero, List.set_cons_succ]
          refine takeL (i := 2) (d := some 69) (v := ?_) rfl rfl (by kernel_rfl) (by kernel_rfl) (by kernel_rfl) (by kernel_rfl) (by kernel_rfl) (fun _ _ _ h => h) (Or.inl ⟨by rfl, ?_⟩) hS ?_
          rotate_left
          · intro wx hSx; clear hSx; first | (go_simp; done) | (go_simp; with_reducible rfl)
          simp only [Act.put, List.setIfInBounds_toArray, List.set_cons_zero, List.set_cons_succ]
          refine takeL (i := 3) (d := some 70) (v := ?_) rfl rfl (by kernel_rfl) (by kernel_rfl) (by kernel_rfl) (by kernel_rfl) (by kernel_rfl) (fun _ _ _ h => h) (Or.inl ⟨by rfl, ?_⟩) hS ?_
          rotate_left
          · intro wx hSx; have e0 := hSx.1; have e1 := hSx.2.1; have e2 := hSx.2.2.1; have e3 := hSx.2.2.2.1; have e4 := hSx.2.2.2.2; clear hSx; first | (go_simp; done) | (go_simp; with_reducible rfl)
          simp only [Act.put, List.setIfInBounds_toArray, List.set_cons_zero, List.set_cons_succ]
          refine takeL (i := 4) (d := some 71) (v := ?_) rfl rfl (by kernel_rfl) (by kernel_rfl) (by kernel_rfl) (by kernel_rfl) (by kernel_rfl) (fun _ _ _ h => h) (Or.inl ⟨by rfl, ?_⟩) hS ?_
          rotate_left
          · intro wx hSx; clear hSx; first | (go_simp; done) | (go_simp; with_reducible rfl)
          simp only [Act.put, List.setIfInBounds_toArray, List.set_cons_zero, List.set_cons_succ]
          refine takeL (i := 5) (d := some 72) (v := ?_) rfl rfl (by kernel_rfl) (by kernel_rfl) (by kernel_rfl) (by kernel_rfl) (by kernel_rfl) (fun _ _ _ h => h) (Or.inl ⟨by rfl, ?_⟩) hS ?_
          rotate_left
          · intro wx hSx; have e0 := hSx.1; have e1 := hSx.2.1; have e2 := hSx.2.2.1; have e3 := hSx.2.2.2.1; have e4 := hSx.2.2.2.2; clear hSx; first | (go_simp; done) | (go_simp; with_reducible rfl)
          simp only [Act.put, List.setIfInBounds_toArray, List.set_cons_zero, List.set_cons_succ]
          refine takeL (i := 6) (d := some 73) (v := ?_) rfl rfl (by kernel_rfl) (by kernel_rfl) (by kernel_rfl) (by kernel_rfl) (by kernel_rfl) (fun _ _ _ h => h) (Or.inl ⟨by rfl, ?_⟩) hS ?_
          rotate_left
          · intro wx hSx; clear hSx; first | (go_simp; done) | (go_simp; with_reducible rfl)
          simp only [Act.put, List.setIfInBounds_toArray, List.set_cons_zero, List.set_cons_succ]
          refine takeL (i := 7) (d := some 74) (v := ?_) rfl rfl (by kernel_rfl) (by kernel_rfl) (by kernel_rfl) (by kernel_rfl) (by kernel_rfl) (fun _ _ _ h => h) (Or.inl ⟨by rfl, ?_⟩) hS ?_
          rotate_left
          · intro wx hSx; clear hSx; first | (go_simp; done) | (go_simp; with_reducible rfl)
          simp only [Act.put, List.setIfInBounds_toArray, List.set_cons_zero, List.set_cons_succ]
          refine takeL (i := 8) (d := some 75) (v := ?_) rfl rfl (by kernel_rfl) (by kernel_rfl) (by kernel_rfl) (by kernel_rfl) (by kernel_rfl) (fun _ _ _ h => h) (Or.inl ⟨by rfl, ?_⟩) hS ?_
          rotate_left
          · intro wx hSx; have e0 := hSx.1; have e1 := hSx.2.1; have e2 := hSx.2.2.1; have e3 := hSx.2.2.2.1; have e4 := hSx.2.2.2.2; clear hSx; first | (go_simp; done) | (go_simp; with_reducible rfl)
          simp only [Act.put, List.setIfInBounds_toArray, List.set_cons_zero, List.set_cons_succ]
          refine takeL (i := 9) (d := some 76) (v := ?_) rfl rfl (by kernel_rfl) (by kernel_rfl) (by kernel_rfl) (by kernel_rfl) (by kernel_rfl) (fun _ _ _ h => h) (Or.inl ⟨by rfl, ?_⟩) hS ?_
          rotate_left
          · intro wx hSx; clear hSx; first | (go_simp; done) | (go_simp; with_reducible rfl)
          simp only [Act.put, List.setIfInBounds_toArray, List.set_cons_zero, List.set_cons_succ]
          refine takeL (i := 10) (d := some 77) (v := ?_) rfl rfl (by kernel_rfl) (by kernel_rfl) (by kernel_rfl) (by kernel_rfl) (by kernel_rfl) (fun _ _ _ h => h) (Or.inl ⟨by rfl, ?_⟩) hS ?_
          rotate_left
          · intro wx hSx; clear hSx; first | (go_simp; done) | (go_simp; with_reducible rfl)
          simp only [Act.put, List.setIfInBounds_toArray, List.set_cons_zero, List.set_cons_succ]
          refine takeL (i := 11) (d := some 78) (v := ?_) rfl rfl (by kernel_rfl) (by kernel_rfl) (by kernel_rfl) (by kernel_rfl) (by kernel_rfl) (fun _ _ _ h => h) (Or.inl ⟨by rfl, ?_⟩) hS ?_
          rotate_left
          · intro wx hSx; have e0 := hSx.1; have e1 := hSx.2.1; have e2 := hSx.2.2.1; have e3 := hSx.2.2.2.1; have e4 := hSx.2.2.2.2; clear hSx; first | (go_simp; done) | (go_simp; with_reducible rfl)
          simp only [Act.put, List.setIfInBounds_toArray, List.set_cons_zero, List.set_cons_succ]
          generalize hwa : World.drew _ = wa at hS ⊢
          have HI : Hid (OwnL elI 1 wa w2.heap.size 3 (.slice V ys.length vc) ys ∧ Blk wa gn 70 #[.int .i64 (xn : Nat), .slice V ys.length vc, .int .i64 N] ∧ Below w2.heap.size w2 wa) := Lib.hid (by rw [← hwa]; exact ⟨own_keep HI0.out.1 ((Below.refl _ _).drew), HI0.out.2.1.drew, HI0.out.2.2.drew⟩)
          clear hwa hS
          refine wpAnyL_ready (rs := [12]) (by kernel_rfl) (by simp) ?_
          refine AllL.cons rfl (fun K hK => ?_) AllL.nil
          rw [if_pos (by rfl)]
          go_simp
          generalize hwb : World.alloc _ _ = wb
          have hal : Below wa.heap.size wa wb := by rw [← hwb]; exact (Below.refl _ _).alloc (Nat.le_refl _) _
          have N1B : Hid (Blk wb wa.heap.size 3 #[.int .i64 u]) := Lib.hid (by rw [← hwb]; exact Blk.new _ _ _)
          replace HI := Lib.hid (And.intro (own_keep HI.out.1 hal) (And.intro (HI.out.2.1.keep hal) (below_seq HI.out.2.2 hal)))
          refine hK.out _ _ (fun _ => ⟨HI.out.2.1.cell 1, keep_cell HI.out.2.2 HS1.out, keep_cell HI.out.2.2 HT2.out, keep_cell HI.out.2.2 HCZ.out, keep_cell HI.out.2.2 HCQ.out⟩) ?_
          clear hK K
          try simp only [Act.put, List.setIfInBounds_toArray, List.set_cons_zero, List.set_cons_succ]
          generalize wa.heap.size = gN1B at *
          clear hwb hal wa
          rename World => wa
          refine wpAnyL_ready (rs := [13]) (by kernel_rfl) (by simp) ?_
          refine AllL.cons rfl (fun K hK => ?_) AllL.nil
          rw [if_pos (by rfl)]
          obtain ⟨v7, w7, hrun7, hn7, hg7, hl7, hb7, hbad7⟩ := own_app1 (P := Try.prog) elI_len (by decide) 22 22 3 (.int .i64 0) 8 Try.underlying22 infoI rfl (by decide) (y := u) rfl N1B.out HI.out.1 elI_one hyl HI.out.2.2.size
          have hne7 : (Value.slice V ys.length vc).ownBlock ≠ some gn := own_blk_ne HI.out.1 HI.out.2.1 (by decide)
          rw [← HSS.out] at hn7
          obtain ⟨V7, c7, hv7⟩ := own_slice hn7
          rw [HSL7.out] at hv7
          subst hv7
          refine wp_app_run (.tmp 68) (.tmp 79) 22 rfl hrun7 ?_
          replace HI := Lib.hid (And.intro hn7 (And.intro (HI.out.2.1.grown hg7 (fun e => hne7 e.symm)) (HI.out.2.2.trans hb7)))
          refine hK.out _ _ (fun _ => ⟨HI.out.2.1.cell 1, keep_cell HI.out.2.2 HS1.out, keep_cell HI.out.2.2 HT2.out, keep_cell HI.out.2.2 HCZ.out, keep_cell HI.out.2.2 HCQ.out⟩) ?_
          clear hK K hrun7
          try simp only [Act.put, List.setIfInBounds_toArray, List.set_cons_zero, List.set_cons_succ]
          clear hn7 hg7 hl7 hb7 hbad7 N1B hne7 wa
          rename World => wa
          refine takeL (i := 14) (d := some 81) (v := ?_) rfl rfl (by kernel_rfl) (by kernel_rfl) (by kernel_rfl) (by kernel_rfl) (by kernel_rfl) (fun _ _ _ h => h) (Or.inl ⟨by rfl, ?_⟩) ⟨HI.out.2.1.cell 1, keep_cell HI.out.2.2 HS1.out, keep_cell HI.out.2.2 HT2.out, keep_cell HI.out.2.2 HCZ.out, keep_cell HI.out.2.2 HCQ.out⟩ ?_
          rotate_left
          · intro wx hSx; clear hSx; first | (go_simp; done) | (go_simp; with_reducible rfl)
          simp only [Act.put, List.setIfInBounds_toArray, List.set_cons_zero, List.set_cons_succ]
          refine wpAnyL_ready (rs := [15]) (by kernel_rfl) (by simp) ?_
          refine AllL.cons rfl (fun K hK => ?_) AllL.nil
          rw [if_pos (by rfl)]
          have y1 := HI.out.2.1.cell 1
          have f1 := HI.out.2.1.frozen 1
          go_simp
          refine hK.out _ _ (fun h => absurd (show true = false from h 15 (by simp)) (by decide)) ?_
          clear hK K y1 f1
          try simp only [Act.put]
          generalize hwb : World.setCell _ _ _ = wb
          have NX2 : Hid (Blk wb gn 70 #[.int .i64 (xn : Nat), .slice V7 (j + 1) c7, .int .i64 N]) := Lib.hid (by rw [← hwb]; exact HI.out.2.1.set_ _ _)
          have HO2 : Hid (OwnL elI 1 wb w2.heap.size 3 (.slice V7 (j + 1) c7) (Rg.subs r v zs (j + 1))) := Lib.hid (own_kt (bad := isT 70) HI.out.1 (by rw [← hwb]; exact Kt.set (p := ⟨gn, 1, none⟩) HI.out.2.1.isT_) (isT_ne (by decide)))
          have HB2 : Hid (Below w2.heap.size w2 wb) := Lib.hid (by rw [← hwb]; exact below_set HI.out.2.2 (p := ⟨gn, 1, none⟩) hgn _)
          clear hwb HI wa
          rename World => wa
          refine wpAnyL_done (by kernel_rfl) ?_ _
          go_wp2_with fail
          go_roundw
          case rel => exact ⟨j + 1, _, by omega, by go_num, NX2, HO2, HB2⟩
          case measure => simp [intOf] <;> omega
      obtain rfl : j = zs.length := by omega
      have HFIN : Hid ((Rg.nxt m (l, r) a v).1 = xn ∧ (Rg.nxt m (l, r) a v).2 = Rg.subs r v zs zs.length ∧ (Rg.tOf m (l, r) a v).out = y) := Lib.hid (by
        unfold Rg.nxt
        rw [HTR.out, Rg.subs_all]
        exact ⟨Int.toNat_natCast _, rfl, rfl⟩)
      obtain ⟨ys, hys⟩ : ∃ ys, ys = Rg.subs r v zs zs.length := ⟨_, rfl⟩
      rw [← hys] at HO NX HFIN
      have HBW : Hid (Below w.heap.size w wy) := Lib.hid (HB12.out.trans (HB.out.mono hgw))
      have H8 := H82.out.below HB.out (by have := H82.out.lt; omega)
      clear hys hsl
      go_upto_region 15 with fail
      clear k2
      refine wp_region_held_drew (S := fun wx => (∃ cs, cs.size = 3 ∧ Blk wx g8 70 cs) ∧ Blk wx gt 94 #[.int .i64 (xn : Nat), .int .i64 y, .slice C3 zs.length e3] ∧ Blk wx gn 70 #[.int .i64 (xn : Nat), .slice V ys.length vc, .int .i64 N] ∧ Below w.heap.size w wx ∧ OwnL elI 1 wx w.heap.size 3 (.slice V ys.length vc) ys) (by kernel_rfl) (⟨⟨_, rfl, H8.drew⟩, KTy.drew, NX.out.drew, HBW.out.drew, own_mono HO.out hgw⟩) (fun hS => ?_)
      refine takeH (i := 0) (d := some 82) (v := .agg #[.int .i64 (xn : Nat), .slice V ys.length vc, .int .i64 N]) rfl rfl (by kernel_rfl) (by kernel_rfl) (by kernel_rfl) (fun _ _ _ h => h) (yieldsIf_load_any (by rfl) 70 _ rfl ⟨gn, 0, none⟩ rfl [.int .i64 (xn : Nat), .slice V ys.length vc, .int .i64 N] _ (fun wx hSx => (hSx.2.2.1.part 0 _ rfl)) Try.underlying70 rfl (by kernel_rfl)) hS ?_
      simp only [Act.put, List.setIfInBounds_toArray, List.set_cons_zero, List.set_cons_succ]
      refine takeH (i := 1) (d := some 83) (v := ?_) rfl rfl (by kernel_rfl) (by kernel_rfl) (by kernel_rfl) (fun _ _ _ h => h) (Or.inl ⟨by rfl, ?_⟩) hS ?_
      rotate_left
      · intro wx hSx; clear hSx; first | (go_simp; done) | (go_simp; with_reducible rfl)
      simp only [Act.put, List.setIfInBounds_toArray, List.set_cons_zero, List.set_cons_succ]
      refine takeH (i := 2) (d := some 84) (v := ?_) rfl rfl (by kernel_rfl) (by kernel_rfl) (by kernel_rfl) (fun _ _ _ h => h) (Or.inl ⟨by rfl, ?_⟩) hS ?_
      rotate_left
      · intro wx hSx; have k1 := hSx.2.1.cell 1; clear hSx; first | (go_simp; done) | (go_simp; with_reducible rfl)
      simp only [Act.put, List.setIfInBounds_toArray, List.set_cons_zero, List.set_cons_succ]
      generalize hwa : World.drew _ = wa at hS ⊢
      clear hwa
      have HSa := Lib.hid hS
      clear hS
      refine wpAnyH_ready (rs := [3]) (by kernel_rfl) (by simp) ?_
      refine AllReadyH.cons rfl (fun K hK => ?_) AllReadyH.nil
      rw [if_pos (by rfl)]
      obtain ⟨cs0, hc0, N0⟩ := HSa.out.1
      refine wp_store_row 70 _ _ rfl g8 #[.int .i64 (xn : Nat), .slice V ys.length vc, .int .i64 N] rfl rfl 70 _ N0 (by kernel_rfl) hc0 (by simp [Value.oneCell']) ?_
      refine hK.out _ _ ⟨⟨_, rfl, set_row_blk N0⟩, far_row_blk HSa.out.2.1 hne8t, far_row_blk HSa.out.2.2.1 hne8n, below_row HSa.out.2.2.2.1 hge8 _, own_kt (bad := isT 70) HSa.out.2.2.2.2 (Kt.row N0.isT_) (isT_ne (by decide))⟩ (fun hS2 => ?_)
      clear hK K
      change wpAnyH _ _ _ _ _ _ _ (Act.put _ none _) _
      try simp only [Act.put]
      generalize hwb : World.setRow _ _ _ = wb at hS2 ⊢
      have N8b : Hid (Blk wb g8 70 #[.int .i64 (xn : Nat), .slice V ys.length vc, .int .i64 N]) := Lib.hid (by rw [← hwb]; exact set_row_blk N0)
      replace HSa := Lib.hid hS2
      clear hS2 hwb N0 hc0 wa
      rename World => wa
      refine takeH (i := 4) (d := some 9) (v := ?_) rfl rfl (by kernel_rfl) (by kernel_rfl) (by kernel_rfl) (fun _ _ _ h => h) (Or.inl ⟨by rfl, ?_⟩) HSa.out ?_
      rotate_left
      · intro wx hSx; clear hSx; first | (go_simp; done) | (go_simp; with_reducible rfl)
      simp only [Act.put, List.setIfInBounds_toArray, List.set_cons_zero, List.set_cons_succ]
      refine wpAnyH_done (by kernel_rfl) ?_ _
      go_wp2_with fail
      refine ret_c2 N8b.out rfl rfl Try.underlying70 rfl (by kernel_rfl) rfl ?_
      rw [HFIN.out.1, HFIN.out.2.1, HFIN.out.2.2]
      exact ⟨⟨_, rfl, HSa.out.2.2.2.2⟩, HSa.out.2.2.2.1⟩
end Go.Proofs.Ytaoebjabdejpoaa
