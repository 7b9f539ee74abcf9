/- The reference's unfolding of a register automaton. -/
import Derived.Test.YtaoebjabdejpoaaUfP
import Derived.Test.YtaoebjabdejpoaaOws
namespace Go.Proofs.Ytaoebjabdejpoaa
open Go.RowKit

set_option linter.unusedSimpArgs false
theorem elS_one {p : Ps} : ∀ u ∈ elS p, u.oneCell' = true := by intro u hu; simp [elS] at hu; rcases hu with rfl | rfl | rfl <;> rfl
theorem infoS : (Try.prog.info? 70).map (fun i => (i.zero, i.size, i.bytes)) = some (some (.agg #[.int .i64 0, .slice none 0 0, .int .i64 0]), 3, 40) := by kernel_rfl
/-- what changes in a round of the search of the reference: the list of states -/
def qr (o : Obj) : Prop := isT 70 o
set_option maxRecDepth 100000 in
set_option maxHeartbeats 16000000 in
theorem unfold_r (m : Rg.M) (di : Int) (A B : Option Addr) (c e : Nat) (w : World) (hR : RdA w A B m) :
    Calls Try.prog 25 #[.agg #[.int .i64 m.I, .int .i64 m.S, .slice A m.rg.length c, .slice B m.tr.length e], .int .i64 di] w (UntP (Rg.unfE m di) w) := by
  have HR := Lib.hid hR
  clear hR
  go_enter Try.func25, Try.ntmps25
  go_upto_region 1 with fail
  generalize hwb : World.alloc _ _ = w0
  have BX : Hid (Blk w0 w.heap.size 25 (tc m A c B e)) := Lib.hid (by rw [← hwb]; exact (Blk.new _ _ _).alloc _)
  have Y2 : Hid (Blk w0 (w.heap.size + 1) 52 #[.int .i64 0, .int .i64 0, .slice none 0 0, .slice none 0 0]) := Lib.hid (by rw [← hwb]; have := Blk.new (w.alloc (.cells (tc m A c B e) 25)) 52 #[.int .i64 0, .int .i64 0, .slice none 0 0, .slice none 0 0]; rw [asize] at this; exact this)
  have HBL : Hid (Below w.heap.size w w0) := Lib.hid (by rw [← hwb]; exact ((Below.refl _ _).alloc (Nat.le_refl _) _).alloc (by rw [asize]; omega) _)
  clear hwb
  go_wp2_with (first | (refine wpList_load_row rfl 25 _ rfl w.heap.size rfl 25 (tc m A c B e) (0, 0) _ BX.out Try.underlying25 rfl (by kernel_rfl) ?_))
  refine (valid_r m A B c e w0 (HR.out.keep HBL.out)).mono ?_
  rintro r w1 ⟨rfl, hb⟩
  replace BX := Lib.hid (BX.out.keep hb)
  replace Y2 := Lib.hid (Y2.out.keep hb)
  replace HBL := Lib.hid (below_seq HBL.out hb)
  have hy1 : w.heap.size ≤ w.heap.size + 1 := by omega
  have HY1 : Hid (w.heap.size + 1 < w1.heap.size) := Lib.hid Y2.out.lt
  clear hb w0
  by_cases hv : Rg.validE m = 0
  rotate_left
  · have HV := Lib.hid (Rg.unf_bad (d := di) hv)
    obtain ⟨q, hq⟩ : ∃ q, q = Rg.validE m := ⟨_, rfl⟩
    rw [← hq] at hv HV ⊢
    have hbz : (q != 0) = true := by rw [bne_iff_ne]; exact hv
    clear hv hq
    go_wp2_with (first | (refine wpList_store_row rfl 52 _ _ rfl (w.heap.size + 1) #[.int .i64 0, .int .i64 0, .slice none 0 0, .slice none 0 0] rfl rfl 52 _ Y2.out (by kernel_rfl) rfl (by simp [Value.oneCell']) ?_))
    refine ret_c2 (set_row_blk Y2.out) rfl rfl Try.underlying52 rfl (by kernel_rfl) rfl ?_
    rw [HV.out]
    exact UntP_err rfl (below_row HBL.out hy1 _)
  rw [hv]
  have HVZ0 := Lib.hid hv
  obtain ⟨k, s, hok⟩ := Rg.ok_of hv
  have HM := Lib.hid hok
  have h64 := hok.k64
  have h128 := hok.n128
  have hk1 := hok.k1
  clear hv hok
  have HT := Lib.hid (HR.out.keep HBL.out)
  clear HR
  have BT := Lib.hid (boxT BX.out)
  have c0 := BT.out.c0
  rw [HM.out.I] at c0
  have c1 := BT.out.c1
  rw [HM.out.S] at c1
  have HC0 : Hid (∀ wz, Below w1.heap.size w1 wz → Blk wz w.heap.size 25 (tc m A c B e)) := Lib.hid (fun wz hz => BX.out.keep hz)
  have HY0 : Hid (∀ wz, Below w1.heap.size w1 wz → Blk wz (w.heap.size + 1) 52 #[.int .i64 0, .int .i64 0, .slice none 0 0, .slice none 0 0]) := Lib.hid (fun wz hz => Y2.out.keep hz)
  clear BT
  cases hp : Rg.permB m.I di with
  | false =>
    have HV := Lib.hid (Rg.unf_perm HVZ0.out hp)
    rw [HM.out.I] at hp
    have HPC := Lib.hid (hp ▸ perm_r (k : Int) di)
    clear hp
    go_wp2_with (first | (go_at_call 35; refine (HPC.out _).mono ?_; rintro r w' ⟨rfl, rfl⟩) | (refine wpList_store_row rfl 52 _ _ rfl (w.heap.size + 1) #[.int .i64 0, .int .i64 0, .slice none 0 0, .slice none 0 0] rfl rfl 52 _ Y2.out (by kernel_rfl) rfl (by simp [Value.oneCell']) ?_))
    refine ret_c2 (set_row_blk Y2.out) rfl rfl Try.underlying52 rfl (by kernel_rfl) rfl ?_
    rw [HV.out]
    exact UntP_err rfl (below_row HBL.out hy1 _)
  | true =>
  have HPB := Lib.hid hp
  have hbd := Rg.perm_bd hp
  rw [HM.out.I] at hp hbd
  have HPC := Lib.hid (hp ▸ perm_r (k : Int) di)
  obtain ⟨d, rfl⟩ : ∃ d : Nat, di = d := ⟨di.toNat, by omega⟩
  have hd1 : 1 ≤ d := by omega
  have hd6 : d ≤ 6 := by omega
  obtain ⟨kk, hkk⟩ : ∃ kk : Nat, kk = k * (d + 1) := ⟨_, rfl⟩
  have hki : (k : Int) * ((d : Int) + 1) = (kk : Int) := by rw [hkk]; push_cast; rfl
  have hk64 : kk ≤ 64 := by have := hbd.2.2.2.2; rw [hki] at this; omega
  have hkk1 : 1 ≤ kk := by rw [hkk]; exact Nat.mul_pos hk1 (by omega)
  have hda : 0 ≤ (d : Int) + 1 := by omega
  have HKK := Lib.hid hkk
  have HKI := Lib.hid hki
  clear hp hbd hkk Y2
  go_upto_region 6 with (first | (go_at_call 35; refine (HPC.out _).mono ?_; rintro r w' ⟨rfl, rfl⟩))
  go_upto_region 7 with fail
  generalize hwb : World.alloc _ _ = wq
  have hal : Below w1.heap.size w1 wq := by rw [← hwb]; exact (Below.refl _ _).alloc (Nat.le_refl _) _
  have KU : Hid (Blk wq w1.heap.size 70 #[.int .i64 (s : Nat), .slice none 0 0, .int .i64 0]) := Lib.hid (by rw [← hwb]; exact Blk.new _ _ _)
  have HB0 := Lib.hid hal
  have hgu : w1.heap.size ≤ w1.heap.size := Nat.le_refl _
  obtain ⟨gu, hgue⟩ : ∃ gu, gu = w1.heap.size := ⟨_, rfl⟩
  rw [← hgue] at KU ⊢
  replace hgu : w1.heap.size ≤ gu := by omega
  replace c0 := keep_cell hal c0
  clear hwb hal c1 hgue
  have KZ := Blk.new wq 52 #[.int .i64 0, .int .i64 0, .slice none 0 0, .slice none 0 0]
  go_upto_region 9 with (first | (refine wpList_store_row rfl 52 _ _ rfl wq.heap.size #[.int .i64 (kk : Int), .int .i64 0, .slice none 0 0, .slice none 0 0] rfl rfl 52 _ KZ (by kernel_rfl) rfl (by simp [Value.oneCell']) ?_))
  generalize hwb : World.setRow _ _ _ = wm
  have hal : Below wq.heap.size wq wm := by rw [← hwb]; exact below_row ((Below.refl _ _).alloc (Nat.le_refl _) _) (Nat.le_refl _) _
  have Y6m : Hid (Blk wm wq.heap.size 52 #[.int .i64 (kk : Int), .int .i64 0, .slice none 0 0, .slice none 0 0]) := Lib.hid (by rw [← hwb]; exact set_row_blk KZ)
  have hp6 : w1.heap.size ≤ wq.heap.size := HB0.out.size
  replace KU := Lib.hid (KU.out.keep hal)
  have HBm := Lib.hid (below_seq HB0.out hal)
  generalize wq.heap.size = p6 at *
  clear hwb hal KZ HB0 c0 wq
  have HO0 : Hid (OwnS wm w1.heap.size (.slice (some ⟨gu, 0, none⟩) 1 1) (.slice none 0 0) (.slice none 0 0) [((s, [], 0), none, 0)]) := Lib.hid ⟨⟨rfl, .inr ⟨gu, 1, _, rfl, hgu, KU.out, Nat.le_refl _, by unfold maxLen; omega, rfl, rfl⟩⟩, fun i p hp => by
      cases i with
      | zero => simp at hp; subst hp; exact World.ownsRow_nil _ _ _ _
      | succ i => simp at hp, fun i p hp g hg => ⟨by simp [Value.ownBlock], by simp [Value.ownBlock]⟩⟩
  have HSO := Lib.hid (Rg.srch_ok (d := d) HM.out)
  have HS0 := Lib.hid (Rg.USea.start (s := Rg.srch m k d) (c := Rg.uc0 s) (Rg.uc0_ok HM.out))
  have HT0 : Hid (UTab wm w1.heap.size (.slice none 0 0) (.slice none 0 0) [] []) := Lib.hid (UTab.nil _ _)
  clear KU
  go_loopw [7, 9] (fun v a wr => ∃ (j : Nat) (q : List Ps) (vn vo x1 x2 : Value) (nx out : List (List Int)), a = .int .i64 j ∧ Hid (OwnS wr w1.heap.size v x1 x2 q) ∧ Hid (UTab wr w1.heap.size vn vo nx out) ∧ Hid (Blk wr p6 52 #[.int .i64 (kk : Int), .int .i64 0, vn, vo]) ∧ Hid (Rg.USea (Rg.srch m k d) (Rg.uc0 s) (Rg.sea (Rg.srch m k d) (Rg.uc0 s)) j (q.map (·.1)) nx out) ∧ Hid (Below w1.heap.size w1 wr)) (fun _ a _ => 3000 - (intOf a).toNat)
  case atStart => exact ⟨0, _, _, _, _, _, [], [], rfl, HO0, HT0, Y6m, HS0, HBm⟩
  case round =>
    clear HO0 HT0 Y6m HS0 HBm
    obtain ⟨j, q, vn, vo, x1, x2, nx, out, rfl, HOa, HU, Y6, HS, HB⟩ := hrel
    have HO := Lib.hid HOa.out.fresh
    clear HOa x1 x2
    clear wm
    rename World => wr
    obtain ⟨E, cE, rfl⟩ := own_slice HO.out.own
    have hql : q.length ≤ 128 := by have := HS.out.q128; rw [List.length_map] at this; exact this
    obtain ⟨A1, d1, rfl⟩ := HU.out.n.slice
    obtain ⟨A2, d2, rfl⟩ := HU.out.o.slice
    by_cases hj : j < q.length
    rotate_left
    · have hj' : ¬ (j : Int) < (q.length : Int) := by omega
      replace hj : ¬ j < (q.map (·.1)).length := by rw [List.length_map]; exact hj
      have HF : Hid (Rg.unfE m (d : Int) = (0, (k : Int) * ((d : Int) + 1), nx, out)) := Lib.hid (Rg.unf_ok HM.out HPB.out (HS.out.fin hj))
      have HOK : Hid (Mea.Ok kk 0 nx out) := Lib.hid (by rw [HKK.out]; exact HS.out.valid (by show 1 ≤ k * (d + 1); rw [← HKK.out]; exact hkk1) (by show k * (d + 1) ≤ 64; rw [← HKK.out]; exact hk64) hj)
      have Y2 := HY0.out wr HB.out
      have y6 := Y6.out
      have hn128 := HOK.out.n128
      have ho128 : out.length ≤ 128 := by have := HOK.out.o; omega
      go_wp2_with (first | (refine wpList_load_row rfl 52 _ rfl p6 rfl 52 (#[.int .i64 (kk : Int), .int .i64 0, .slice A1 nx.length d1, .slice A2 out.length d2]) (0, 0) _ y6 Try.underlying52 rfl (by kernel_rfl) ?_) | (refine wpList_store_row rfl 52 _ _ rfl (w.heap.size + 1) #[.int .i64 (kk : Int), .int .i64 0, .slice A1 nx.length d1, .slice A2 out.length d2] rfl rfl 52 _ Y2 (by kernel_rfl) rfl (by simp [Value.oneCell']) ?_))
      refine ret_c2 (set_row_blk Y2) rfl rfl Try.underlying52 rfl (by kernel_rfl) rfl ?_
      have hkt : Kt (isT 52) wr (wr.setRow (w.heap.size + 1) #[.int .i64 (kk : Int), .int .i64 0, .slice A1 nx.length d1, .slice A2 out.length d2]) := Kt.row Y2.isT_
      have hu := HU.out.kt hkt (isT_ne (by decide)) (isT_ne (by decide))
      have hB := below_row (cs := #[.int .i64 (kk : Int), .int .i64 0, .slice A1 nx.length d1, .slice A2 out.length d2]) (below_seq HBL.out HB.out) hy1
      rw [HF.out, HKI.out]
      exact ⟨⟨A1, A2, d1, d2, rfl, hu.n.rd (by omega) (short_rows HOK.out.rowN HOK.out.k64), hu.o.rd (by omega) (short_rows (n := kk) (fun s hs => HOK.out.rowO s (by have := HOK.out.o; omega)) HOK.out.k64)⟩, hB⟩
    have hj' : (j : Int) < (q.length : Int) := by omega
    have hjm : j < (q.map (·.1)).length := by rw [List.length_map]; exact hj
    obtain ⟨cc, hcc⟩ : ∃ cc, (q.map (·.1))[j]? = some cc := ⟨_, List.getElem?_eq_getElem hjm⟩
    have HW := Lib.hid (HS.out.begin hcc)
    have HJC := Lib.hid hcc
    have HJM := Lib.hid hjm
    have HOK := Lib.hid (HS.out.good.ok cc (List.mem_of_getElem? hcc))
    have hbs : w1.heap.size ≤ wr.heap.size := HB.out.size
    clear hcc hjm
    go_upto_region 13 with fail
    clear hj'
    have HP0 : Hid (Pr2 wr wr.heap.size (.slice none 0 0) (.slice none 0 0) [] []) := Lib.hid (Pr2.nil _ _)
    have HK0 : Hid (Kt qr wr wr) := Lib.hid (Kt.refl _)
    go_loopw [7, 10, 11, 12] (fun v vns vos i wy => ∃ (x : Nat) (q2 : List Ps) (ns os : List Int), x ≤ kk ∧ i = .int .i64 x ∧ Hid (OwnS wy w1.heap.size v vns vos q2) ∧ Hid (Pr2 wy wr.heap.size vns vos ns os) ∧ Hid (Rg.URow (Rg.srch m k d) cc j (Rg.uRow (Rg.srch m k d) cc (Rg.srch m k d).K 0 (q.map (·.1)) [] []) (q.map (·.1)) x (q2.map (·.1)) ns os) ∧ Hid (Kt qr wr wy) ∧ Hid (Below w1.heap.size w1 wy)) (fun _ _ _ i _ => 100 - (intOf i).toNat)
    case atStart => exact ⟨0, q, [], [], Nat.zero_le _, rfl, HO, HP0, HW, HK0, HB⟩
    case round =>
      clear HP0 HK0
      obtain ⟨x, q2, ns, os, hxle, rfl, HO, HP, HW, HK, HB⟩ := hrel
      rename World => wy
      have hsz : w1.heap.size ≤ wy.heap.size := HB.out.size
      have hbr : wr.heap.size ≤ wy.heap.size := HK.out.size
      obtain ⟨E2, cE2, rfl⟩ := own_slice HO.out.own
      have hql2 : q2.length ≤ 128 := by have := HW.out.q128; rw [List.length_map] at this; exact this
      have hjl : j < q2.length := by have := (List.getElem?_eq_some_iff.1 HW.out.at_).1; rw [List.length_map] at this; exact this
      have Y6y : Hid (Blk wy p6 52 #[.int .i64 (kk : Int), .int .i64 0, .slice A1 nx.length d1, .slice A2 out.length d2]) := Lib.hid (blk_kt Y6.out HK.out (isT_ne (by decide)))
      have y0 := Y6y.out.cell 0
      by_cases hx : x < kk
      rotate_left
      · have hxe : x = (Rg.srch m k d).K := by show x = k * (d + 1); rw [← HKK.out]; omega
        have hx' : ¬ (x : Int) < (kk : Int) := by omega
        obtain ⟨N1, e1, rfl⟩ := own_slice HP.out.n
        obtain ⟨N2, e2, rfl⟩ := own_slice HP.out.o
        have HX : Hid (Rg.USea (Rg.srch m k d) (Rg.uc0 s) (Rg.sea (Rg.srch m k d) (Rg.uc0 s)) (j + 1) (q2.map (·.1)) (nx ++ [ns]) (out ++ [os])) := Lib.hid (HS.out.next HJM.out HJC.out (hxe ▸ HW.out))
        have hnl : nx.length ≤ 1099511627776 := by have := HS.out.ln; omega
        have hol : out.length ≤ 1099511627776 := by have := HS.out.lo; omega
        replace HU := Lib.hid (HU.out.kt HK.out (isT_ne (by decide)) (isT_ne (by decide)))
        have y2 : wy.cell? ⟨p6, 2, none⟩ = some (.slice A1 nx.length d1) := Y6y.out.cell 2
        clear HW HS HJC HJM HK Y6 hxe hx hbr
        have hal := (Below.refl wy.heap.size wy).alloc (Nat.le_refl _) (.cells #[.slice N1 ns.length e1] 22)
        obtain ⟨v7, w7, hrun7, hn7, hg7, hl7, hb7, hbad7⟩ := own_app (P := Try.prog) 50 50 22 3 Try.underlying50 infoR (by decide) (Blk.new wy 22 #[.slice N1 ns.length e1]) (HU.out.n.keep hal) rfl (own_mono (HP.out.rowN.alloc _) hbs) (hnl) (Nat.le_trans hsz hal.size)
        obtain ⟨nx7, hnx7⟩ : ∃ nx7, nx7 = nx ++ [ns] := ⟨_, rfl⟩
        rw [← hnx7] at hn7 HX
        obtain ⟨A3, d3, rfl⟩ := hn7.slice
        clear hnx7
        have k1 : Kt (isT 22) wy w7 := (Kt.below hal).trans (Kt.grown hg7 hbad7)
        have Y7 := blk_kt Y6y.out k1 (isT_ne (by decide))
        have z2 : w7.cell? ⟨p6, 2, none⟩ = some (.slice A1 nx.length d1) := Y7.cell 2
        have f2 := Y7.frozen 2
        have HK1 := Lib.hid k1
        have HY7 := Lib.hid Y7
        have HU7 := Lib.hid ((HU.out.keep hal).pushN hn7 hg7 hl7)
        have HB7 := Lib.hid ((HB.out.trans (Below.mono hal hsz)).trans hb7)
        clear k1 Y7 hn7 hg7 hl7 hb7 hbad7 hal
        go_upto_region 26 with (at_builtin; refine wpList_app_run rfl (.tmp 87) (.tmp 89) 50 rfl hrun7 ?_)
        generalize hwc : World.setCell _ _ _ = w8
        have k2 : Kt (isT 52) w7 w8 := by rw [← hwc]; exact Kt.set (p := ⟨p6, 2, none⟩) (HY7.out.isT_)
        replace Y6y : Hid (Blk w8 p6 52 #[.int .i64 (kk : Int), .int .i64 0, .slice A3 nx7.length d3, .slice A2 out.length d2]) := Lib.hid (by rw [← hwc]; exact HY7.out.set_ _ _)
        replace HU := Lib.hid (HU7.out.kt k2 (isT_ne (by decide)) (isT_ne (by decide)))
        replace HO := Lib.hid ((HO.out.kt HK1.out (isT_ne (by decide)) (isT_ne (by decide))).kt k2 (isT_ne (by decide)) (isT_ne (by decide)))
        replace HP := Lib.hid ((HP.out.kt HK1.out (isT_ne (by decide))).kt k2 (isT_ne (by decide)))
        replace HB := Lib.hid (show Below w1.heap.size w1 w8 by rw [← hwc]; exact HB7.out.setCell hp6 _)
        replace hsz : w1.heap.size ≤ w8.heap.size := HB.out.size
        clear hwc k2 hrun7 z2 f2 y2 HK1 HY7 HU7 HB7
        clear w7
        rename World => wz
        have y3 : wz.cell? ⟨p6, 3, none⟩ = some (.slice A2 out.length d2) := Y6y.out.cell 3
        have hal := (Below.refl wz.heap.size wz).alloc (Nat.le_refl _) (.cells #[.slice N2 os.length e2] 22)
        obtain ⟨v7, w7, hrun7, hn7, hg7, hl7, hb7, hbad7⟩ := own_app (P := Try.prog) 50 50 22 3 Try.underlying50 infoR (by decide) (Blk.new wz 22 #[.slice N2 os.length e2]) (HU.out.o.keep hal) rfl (own_mono (HP.out.rowO.alloc _) hbs) (hol) (Nat.le_trans hsz hal.size)
        obtain ⟨out7, hout7⟩ : ∃ out7, out7 = out ++ [os] := ⟨_, rfl⟩
        rw [← hout7] at hn7 HX
        obtain ⟨A4, d4, rfl⟩ := hn7.slice
        clear hout7
        have k1 : Kt (isT 22) wz w7 := (Kt.below hal).trans (Kt.grown hg7 hbad7)
        have Y7 := blk_kt Y6y.out k1 (isT_ne (by decide))
        have z3 : w7.cell? ⟨p6, 3, none⟩ = some (.slice A2 out.length d2) := Y7.cell 3
        have f3 := Y7.frozen 3
        have HK1 := Lib.hid k1
        have HY7 := Lib.hid Y7
        have HU7 := Lib.hid ((HU.out.keep hal).pushO hn7 hg7 hl7)
        have HB7 := Lib.hid ((HB.out.trans (Below.mono hal hsz)).trans hb7)
        clear k1 Y7 hn7 hg7 hl7 hb7 hbad7 hal
        go_upto_region 10 with (at_builtin; refine wpList_app_run rfl (.tmp 93) (.tmp 95) 50 rfl hrun7 ?_)
        generalize hwc : World.setCell _ _ _ = w8
        have k2 : Kt (isT 52) w7 w8 := by rw [← hwc]; exact Kt.set (p := ⟨p6, 3, none⟩) (HY7.out.isT_)
        replace Y6y : Hid (Blk w8 p6 52 #[.int .i64 (kk : Int), .int .i64 0, .slice A3 nx7.length d3, .slice A4 out7.length d4]) := Lib.hid (by rw [← hwc]; exact HY7.out.set_ _ _)
        replace HU := Lib.hid (HU7.out.kt k2 (isT_ne (by decide)) (isT_ne (by decide)))
        replace HO := Lib.hid ((HO.out.kt HK1.out (isT_ne (by decide)) (isT_ne (by decide))).kt k2 (isT_ne (by decide)) (isT_ne (by decide)))
        replace HB := Lib.hid (show Below w1.heap.size w1 w8 by rw [← hwc]; exact HB7.out.setCell hp6 _)
        clear hwc k2 hrun7 z3 f3 y3 HK1 HY7 HU7 HB7
        go_wp2_with fail
        go_roundw
        case rel => exact ⟨j + 1, q2, _, _, _, _, nx7, out7, by go_num, HO, HU, Y6y, HX, HB⟩
        case measure => simp [intOf] <;> omega
      have hx' : (x : Int) < (kk : Int) := by omega
      have hxk : x < k * (d + 1) := by rw [← HKK.out]; exact hx
      have HR4 : Hid (∀ (i : Nat) p, q2[i]? = some p → p.1.2.1.length ≤ 4) := Lib.hid (fun i p hp => (HW.out.good.ok p.1 (List.mem_map.2 ⟨p, List.mem_of_getElem? hp, rfl⟩)).st.r4 HM.out)
      have HRC := Lib.hid (HO.out.rd rfl (by omega) HR4.out).2
      obtain ⟨pp, hpp⟩ : ∃ pp, q2[j]? = some pp := ⟨_, List.getElem?_eq_getElem hjl⟩
      obtain ⟨⟨l, r, n⟩, R0, rc0⟩ := pp
      have hcce : cc = (l, r, n) := by have h1 := HW.out.at_; rw [List.getElem?_map, hpp] at h1; exact (Option.some.inj h1).symm
      obtain ⟨ad, rfl, hcell⟩ := HRC.out.rd.at_ hpp
      have HRR := Lib.hid (HRC.out.row j _ hpp)
      replace HRR : Hid (Rd wy R0 r) := HRR
      have HCL := Lib.hid (RdL.whole (w := wy) (ad := ad) (i := j) (x := ((l, r, n), R0, rc0)) (el := elS) (size := 3) hcell)
      have HXK := Lib.hid hxk
      have HCCE := Lib.hid hcce
      clear hcell hxk hpp
      obtain ⟨⟨l1, r1, n1⟩, hcn⟩ : ∃ cn, cn = Rg.uN m d (l, r, n) x := ⟨_, rfl⟩
      obtain ⟨uo, huo⟩ : ∃ uo, uo = Rg.uO m d (l, r, n) x := ⟨_, rfl⟩
      have HCN := Lib.hid hcn
      have HUO := Lib.hid huo
      have HOKc : Hid (Rg.UcOk m d (l, r, n)) := Lib.hid (by rw [← hcce]; exact HOK.out)
      clear hcn huo hcce
      go_upto_region 15 with fail
      clear hx'
      go_cut [13, 14] (fun p o wx => ∃ k6 R1 rc1, p = .pointer (some ⟨k6, 0, none⟩) ∧ o = .int .i64 uo ∧ Blk wx k6 70 #[.int .i64 (l1 : Nat), .slice R1 r1.length rc1, .int .i64 (n1 : Nat)] ∧ (Rg.uPoss d n (x % (d + 1)) = true → OwnL elI 1 wx wy.heap.size 3 (.slice R1 r1.length rc1) r1) ∧ (Rg.uPoss d n (x % (d + 1)) = false → R1 = R0) ∧ Below wy.heap.size wy wx)
      case first =>
        refine wp_region_held_drew (S := fun wx => Below wy.heap.size wy wx) (by kernel_rfl) ((Below.refl _ _).drew) (fun hS => ?_)
        refine takeH (i := 0) (d := some 51) (v := .agg #[.int .i64 m.I, .int .i64 m.S, .slice A m.rg.length c, .slice B m.tr.length e]) rfl rfl (by kernel_rfl) (by kernel_rfl) (by kernel_rfl) (fun _ _ _ h => h) (yieldsIf_load_any (by rfl) 25 _ rfl ⟨w.heap.size, 0, none⟩ rfl [.int .i64 m.I, .int .i64 m.S, .slice A m.rg.length c, .slice B m.tr.length e] _ (fun wx hSx => ((HC0.out wx (HB.out.trans (Below.mono hSx hsz))).part 0 _ rfl)) Try.underlying25 rfl (by kernel_rfl)) hS ?_
        simp only [Act.put, List.setIfInBounds_toArray, List.set_cons_zero, List.set_cons_succ]
        refine takeH (i := 1) (d := some 52) (v := ?_) rfl rfl (by kernel_rfl) (by kernel_rfl) (by kernel_rfl) (fun _ _ _ h => h) (Or.inl ⟨by rfl, ?_⟩) hS ?_
        rotate_left
        · intro wx hSx; clear hSx; first | (go_simp; done) | (go_simp; with_reducible rfl)
        simp only [Act.put, List.setIfInBounds_toArray, List.set_cons_zero, List.set_cons_succ]
        refine takeH (i := 2) (d := some 53) (v := ?_) rfl rfl (by kernel_rfl) (by kernel_rfl) (by kernel_rfl) (fun _ _ _ h => h) (Or.inl ⟨by rfl, ?_⟩) hS ?_
        rotate_left
        · intro wx hSx; clear hSx; first | (go_simp; done) | (go_simp; with_reducible rfl)
        simp only [Act.put, List.setIfInBounds_toArray, List.set_cons_zero, List.set_cons_succ]
        refine takeH (i := 3) (d := some 54) (v := ?_) rfl rfl (by kernel_rfl) (by kernel_rfl) (by kernel_rfl) (fun _ _ _ h => h) (Or.inl ⟨by rfl, ?_⟩) hS ?_
        rotate_left
        · intro wx hSx; clear hSx; first | (go_simp; done) | (go_simp; with_reducible rfl)
        simp only [Act.put, List.setIfInBounds_toArray, List.set_cons_zero, List.set_cons_succ]
        refine takeH (i := 4) (d := some 55) (v := .agg #[.int .i64 (l : Nat), .slice R0 r.length rc0, .int .i64 (n : Nat)]) rfl rfl (by kernel_rfl) (by kernel_rfl) (by kernel_rfl) (fun _ _ _ h => h) (yieldsIf_load_any (by rfl) 70 _ rfl (ad.add (j * 3)) rfl [.int .i64 (l : Nat), .slice R0 r.length rc0, .int .i64 (n : Nat)] _ (fun wx hSx => (fun jj u hu => keep_cell hSx (HCL.out jj u hu))) Try.underlying70 rfl (by kernel_rfl)) hS ?_
        simp only [Act.put, List.setIfInBounds_toArray, List.set_cons_zero, List.set_cons_succ]
        refine takeH (i := 5) (d := some 56) (v := ?_) rfl rfl (by kernel_rfl) (by kernel_rfl) (by kernel_rfl) (fun _ _ _ h => h) (Or.inl ⟨by rfl, ?_⟩) hS ?_
        rotate_left
        · intro wx hSx; clear hSx; first | (go_simp; done) | (go_simp; with_reducible rfl)
        simp only [Act.put, List.setIfInBounds_toArray, List.set_cons_zero, List.set_cons_succ]
        refine takeH (i := 6) (d := some 57) (v := ?_) rfl rfl (by kernel_rfl) (by kernel_rfl) (by kernel_rfl) (fun _ _ _ h => h) (Or.inl ⟨by rfl, ?_⟩) hS ?_
        rotate_left
        · intro wx hSx; clear hSx; first | (go_simp; done) | (go_simp; with_reducible rfl)
        simp only [Act.put, List.setIfInBounds_toArray, List.set_cons_zero, List.set_cons_succ]
        generalize hwa : World.drew _ = wa at hS ⊢
        clear hwa
        have HSa := Lib.hid hS
        clear hS
        refine wpAnyH_ready (rs := [7, 11]) (by kernel_rfl) (by simp) ?_
        refine AllReadyH.cons rfl (fun K hK => ?_) (AllReadyH.cons rfl (fun K hK => ?_) AllReadyH.nil)
        · skip
          rw [if_pos (by rfl)]
          try go_simp
          refine (after_r m k s d x l n r A B R0 c e rc0 wa HM.out hd1 hd6 HOKc.out HXK.out (by omega) (HT.out.keep (below_seq HB.out HSa.out)) (HRR.out.keep HSa.out)).mono ?_
          rintro qq wv ⟨⟨R1, rc1, rfl, hrd1, hown1, heq1⟩, hb⟩
          rw [← HCN.out] at hrd1 hown1
          rw [← HCN.out, ← HUO.out]
          replace hrd1 : Rd wv R1 r1 := hrd1
          replace hown1 : Rg.uPoss d n (x % (d + 1)) = true → OwnL elI 1 wv wa.heap.size 3 (.slice R1 r1.length rc1) r1 := hown1
          have HEQ := Lib.hid heq1
          have HOWN := Lib.hid (fun h => own_mono (hown1 h) HSa.out.size)
          refine hK.out _ _ (below_seq HSa.out hb) (fun hS2 => ?_)
          clear hK K
          try simp only [Act.put, List.setIfInBounds_toArray, List.set_cons_zero, List.set_cons_succ]
          replace HSa := Lib.hid hS2
          clear hS2 hb hrd1 hown1 heq1 wa
          rename World => wa
          refine takeH (i := 8) (d := some 50) (v := ?_) rfl rfl (by kernel_rfl) (by kernel_rfl) (by kernel_rfl) (fun _ _ _ h => h) (Or.inl ⟨by rfl, ?_⟩) HSa.out ?_
          rotate_left
          · intro wx hSx; clear hSx; first | (go_simp; done) | (go_simp; with_reducible rfl)
          simp only [Act.put, List.setIfInBounds_toArray, List.set_cons_zero, List.set_cons_succ]
          refine takeH (i := 9) (d := some 59) (v := ?_) rfl rfl (by kernel_rfl) (by kernel_rfl) (by kernel_rfl) (fun _ _ _ h => h) (Or.inl ⟨by rfl, ?_⟩) HSa.out ?_
          rotate_left
          · intro wx hSx; clear hSx; first | (go_simp; done) | (go_simp; with_reducible rfl)
          simp only [Act.put, List.setIfInBounds_toArray, List.set_cons_zero, List.set_cons_succ]
          refine takeH (i := 10) (d := some 60) (v := ?_) rfl rfl (by kernel_rfl) (by kernel_rfl) (by kernel_rfl) (fun _ _ _ h => h) (Or.inl ⟨by rfl, ?_⟩) HSa.out ?_
          rotate_left
          · intro wx hSx; clear hSx; first | (go_simp; done) | (go_simp; with_reducible rfl)
          simp only [Act.put, List.setIfInBounds_toArray, List.set_cons_zero, List.set_cons_succ]
          refine wpAnyH_ready (rs := [11]) (by kernel_rfl) (by simp) ?_
          refine AllReadyH.cons rfl (fun K hK => ?_) AllReadyH.nil
          rw [if_pos (by rfl)]
          go_simp
          refine hK.out _ _ (Below.alloc HSa.out HSa.out.size _) (fun hS2 => ?_)
          clear hK K
          try simp only [Act.put, List.setIfInBounds_toArray, List.set_cons_zero, List.set_cons_succ]
          generalize hwb : World.alloc _ _ = wb at hS2 ⊢
          have hal : Below wa.heap.size wa wb := by rw [← hwb]; exact (Below.refl _ _).alloc (Nat.le_refl _) _
          replace HOWN := Lib.hid (fun h => own_keep (HOWN.out h) hal)
          have K6 : Hid (Blk wb wa.heap.size 70 #[.int .i64 0, .slice none 0 0, .int .i64 0]) := Lib.hid (by rw [← hwb]; exact Blk.new _ _ _)
          have hgeK6 : wy.heap.size ≤ wa.heap.size := HSa.out.size
          replace HSa := Lib.hid hS2
          generalize wa.heap.size = kK6 at *
          clear hS2 hwb hal
          rename World => wa
          refine wpAnyH_ready (rs := [12]) (by kernel_rfl) (by simp) ?_
          refine AllReadyH.cons rfl (fun K hK => ?_) AllReadyH.nil
          rw [if_pos (by rfl)]
          refine wp_store_row 70 _ _ rfl kK6 #[.int .i64 (l1 : Nat), .slice R1 r1.length rc1, .int .i64 (n1 : Nat)] rfl rfl 70 _ K6.out (by kernel_rfl) rfl (by simp [Value.oneCell']) ?_
          refine hK.out _ _ (below_row HSa.out hgeK6 _) (fun hS2 => ?_)
          clear hK K
          change wpAnyH _ _ _ _ _ _ _ (Act.put _ none _) _
          try simp only [Act.put]
          generalize hwb : World.setRow _ _ _ = wb at hS2 ⊢
          have K6b : Hid (Blk wb kK6 70 #[.int .i64 (l1 : Nat), .slice R1 r1.length rc1, .int .i64 (n1 : Nat)]) := Lib.hid (by rw [← hwb]; exact set_row_blk K6.out)
          replace HOWN : Hid (Rg.uPoss d n (x % (d + 1)) = true → OwnL elI 1 wb wy.heap.size 3 (.slice R1 r1.length rc1) r1) := Lib.hid (fun h => own_kt (bad := isT 70) (HOWN.out h) (by rw [← hwb]; exact Kt.row K6.out.isT_) (isT_ne (by decide)))
          replace HSa := Lib.hid hS2
          clear hS2 hwb K6 wa
          rename World => wa
          refine takeH (i := 13) (d := some 14) (v := ?_) rfl rfl (by kernel_rfl) (by kernel_rfl) (by kernel_rfl) (fun _ _ _ h => h) (Or.inl ⟨by rfl, ?_⟩) HSa.out ?_
          rotate_left
          · intro wx hSx; clear hSx; first | (go_simp; done) | (go_simp; with_reducible rfl)
          simp only [Act.put, List.setIfInBounds_toArray, List.set_cons_zero, List.set_cons_succ]
          refine wpAnyH_done (by kernel_rfl) ?_ _
          go_wp2_with fail
          go_meet
          exact ⟨kK6, R1, rc1, rfl, rfl, K6b.out, HOWN.out, HEQ.out, HSa.out⟩
        · skip
          rw [if_pos (by rfl)]
          go_simp
          refine hK.out _ _ (Below.alloc HSa.out HSa.out.size _) (fun hS2 => ?_)
          clear hK K
          try simp only [Act.put, List.setIfInBounds_toArray, List.set_cons_zero, List.set_cons_succ]
          generalize hwb : World.alloc _ _ = wb at hS2 ⊢
          have hal : Below wa.heap.size wa wb := by rw [← hwb]; exact (Below.refl _ _).alloc (Nat.le_refl _) _
          have K6 : Hid (Blk wb wa.heap.size 70 #[.int .i64 0, .slice none 0 0, .int .i64 0]) := Lib.hid (by rw [← hwb]; exact Blk.new _ _ _)
          have hgeK6 : wy.heap.size ≤ wa.heap.size := HSa.out.size
          replace HSa := Lib.hid hS2
          generalize wa.heap.size = kK6 at *
          clear hS2 hwb hal
          rename World => wa
          refine wpAnyH_ready (rs := [7]) (by kernel_rfl) (by simp) ?_
          refine AllReadyH.cons rfl (fun K hK => ?_) AllReadyH.nil
          rw [if_pos (by rfl)]
          try go_simp
          refine (after_r m k s d x l n r A B R0 c e rc0 wa HM.out hd1 hd6 HOKc.out HXK.out (by omega) (HT.out.keep (below_seq HB.out HSa.out)) (HRR.out.keep HSa.out)).mono ?_
          rintro qq wv ⟨⟨R1, rc1, rfl, hrd1, hown1, heq1⟩, hb⟩
          rw [← HCN.out] at hrd1 hown1
          rw [← HCN.out, ← HUO.out]
          replace hrd1 : Rd wv R1 r1 := hrd1
          replace hown1 : Rg.uPoss d n (x % (d + 1)) = true → OwnL elI 1 wv wa.heap.size 3 (.slice R1 r1.length rc1) r1 := hown1
          have HEQ := Lib.hid heq1
          have HOWN := Lib.hid (fun h => own_mono (hown1 h) HSa.out.size)
          refine hK.out _ _ (below_seq HSa.out hb) (fun hS2 => ?_)
          clear hK K
          try simp only [Act.put, List.setIfInBounds_toArray, List.set_cons_zero, List.set_cons_succ]
          replace K6 := Lib.hid (K6.out.keep hb)
          replace HSa := Lib.hid hS2
          clear hS2 hb hrd1 hown1 heq1 wa
          rename World => wa
          refine takeH (i := 8) (d := some 50) (v := ?_) rfl rfl (by kernel_rfl) (by kernel_rfl) (by kernel_rfl) (fun _ _ _ h => h) (Or.inl ⟨by rfl, ?_⟩) HSa.out ?_
          rotate_left
          · intro wx hSx; clear hSx; first | (go_simp; done) | (go_simp; with_reducible rfl)
          simp only [Act.put, List.setIfInBounds_toArray, List.set_cons_zero, List.set_cons_succ]
          refine takeH (i := 9) (d := some 59) (v := ?_) rfl rfl (by kernel_rfl) (by kernel_rfl) (by kernel_rfl) (fun _ _ _ h => h) (Or.inl ⟨by rfl, ?_⟩) HSa.out ?_
          rotate_left
          · intro wx hSx; clear hSx; first | (go_simp; done) | (go_simp; with_reducible rfl)
          simp only [Act.put, List.setIfInBounds_toArray, List.set_cons_zero, List.set_cons_succ]
          refine takeH (i := 10) (d := some 60) (v := ?_) rfl rfl (by kernel_rfl) (by kernel_rfl) (by kernel_rfl) (fun _ _ _ h => h) (Or.inl ⟨by rfl, ?_⟩) HSa.out ?_
          rotate_left
          · intro wx hSx; clear hSx; first | (go_simp; done) | (go_simp; with_reducible rfl)
          simp only [Act.put, List.setIfInBounds_toArray, List.set_cons_zero, List.set_cons_succ]
          refine wpAnyH_ready (rs := [12]) (by kernel_rfl) (by simp) ?_
          refine AllReadyH.cons rfl (fun K hK => ?_) AllReadyH.nil
          rw [if_pos (by rfl)]
          refine wp_store_row 70 _ _ rfl kK6 #[.int .i64 (l1 : Nat), .slice R1 r1.length rc1, .int .i64 (n1 : Nat)] rfl rfl 70 _ K6.out (by kernel_rfl) rfl (by simp [Value.oneCell']) ?_
          refine hK.out _ _ (below_row HSa.out hgeK6 _) (fun hS2 => ?_)
          clear hK K
          change wpAnyH _ _ _ _ _ _ _ (Act.put _ none _) _
          try simp only [Act.put]
          generalize hwb : World.setRow _ _ _ = wb at hS2 ⊢
          have K6b : Hid (Blk wb kK6 70 #[.int .i64 (l1 : Nat), .slice R1 r1.length rc1, .int .i64 (n1 : Nat)]) := Lib.hid (by rw [← hwb]; exact set_row_blk K6.out)
          replace HOWN : Hid (Rg.uPoss d n (x % (d + 1)) = true → OwnL elI 1 wb wy.heap.size 3 (.slice R1 r1.length rc1) r1) := Lib.hid (fun h => own_kt (bad := isT 70) (HOWN.out h) (by rw [← hwb]; exact Kt.row K6.out.isT_) (isT_ne (by decide)))
          replace HSa := Lib.hid hS2
          clear hS2 hwb K6 wa
          rename World => wa
          refine takeH (i := 13) (d := some 14) (v := ?_) rfl rfl (by kernel_rfl) (by kernel_rfl) (by kernel_rfl) (fun _ _ _ h => h) (Or.inl ⟨by rfl, ?_⟩) HSa.out ?_
          rotate_left
          · intro wx hSx; clear hSx; first | (go_simp; done) | (go_simp; with_reducible rfl)
          simp only [Act.put, List.setIfInBounds_toArray, List.set_cons_zero, List.set_cons_succ]
          refine wpAnyH_done (by kernel_rfl) ?_ _
          go_wp2_with fail
          go_meet
          exact ⟨kK6, R1, rc1, rfl, rfl, K6b.out, HOWN.out, HEQ.out, HSa.out⟩
      case rest =>
      obtain ⟨k6, R1, rc1, rfl, rfl, hk6, hown, heq, hbx⟩ := hcut
      rename World => wu
      try apply_assumption
      obtain ⟨N1, e1, rfl⟩ := own_slice HP.out.n
      obtain ⟨N2, e2, rfl⟩ := own_slice HP.out.o
      have HOA : Hid (Rg.UcOk m d (l1, r1, n1)) := Lib.hid (by rw [HCN.out]; exact Rg.uN_ok HM.out HOKc.out HXK.out)
      have hr4 : r1.length ≤ 4 := HOA.out.st.r4 HM.out
      have HRB : Hid (Rd wu R1 r1) := Lib.hid (by
        cases hp : Rg.uPoss d n (x % (d + 1)) with
        | true => exact (own_rdi (hown hp) (by omega)).2
        | false =>
          have h1 := heq hp
          have h2 := HCN.out
          rw [Rg.uN_no (c := (l, r, n)) hp] at h2
          injection h2 with _ h2
          injection h2 with h2 _
          subst h1 h2
          exact HRR.out.keep hbx)
      have HOWN : Hid (Rg.uPoss d n (x % (d + 1)) = true → OwnL elI 1 wu wy.heap.size 3 (.slice R1 r1.length rc1) r1) := Lib.hid hown
      have HLTN : Hid (∀ g, wy.heap.size ≤ g → (Value.slice N1 ns.length e1).ownBlock ≠ some g ∧ (Value.slice N2 os.length e2).ownBlock ≠ some g) := Lib.hid (fun g hg => ⟨fun e => by have := (World.ownsRow.lt HP.out.n g e).2; omega, fun e => by have := (World.ownsRow.lt HP.out.o g e).2; omega⟩)
      have hwys : w1.heap.size ≤ wy.heap.size := HB.out.size
      replace HRC := Lib.hid (HRC.out.keep hbx)
      replace HO := Lib.hid (HO.out.keep hbx)
      replace HP := Lib.hid (HP.out.keep hbx)
      replace HK := Lib.hid (HK.out.trans (Kt.below hbx))
      replace HB := Lib.hid (below_seq HB.out hbx)
      replace hsz : w1.heap.size ≤ wu.heap.size := HB.out.size
      replace hbr : wr.heap.size ≤ wu.heap.size := HK.out.size
      have K6 := Lib.hid hk6
      have HNX : Hid ((Rg.srch m k d).nx cc x = (l1, r1, n1)) := Lib.hid (by rw [HCCE.out]; exact HCN.out.symm)
      have HOX : Hid ((Rg.srch m k d).o cc x = uo) := Lib.hid (by rw [HCCE.out]; exact HUO.out.symm)
      have huo0 : 0 ≤ uo := by rw [HUO.out]; exact HSO.out.o (l, r, n) x HOKc.out HXK.out
      have hq6 : ns.length ≤ 1099511627776 := by have := HW.out.ln; omega
      have ho6 : os.length ≤ 1099511627776 := by have := HW.out.ln; have := HW.out.row.len; omega
      clear hk6 hbx HCL hown heq y0 Y6y
      by_cases hlim : 1048576 < uo
      · have hlim' : (1048576 : Int) < uo := hlim
        have hr1 := HW.out.lim HXK.out (by rw [HOX.out]; exact hlim)
        clear hlim
        have HE := Lib.hid (Rg.unf_err HM.out HPB.out (by decide) (HS.out.err HJM.out HJC.out (by decide) hr1))
        have Y2 := HY0.out wu HB.out
        clear hr1
        go_wp2_with (first | (refine wpList_load_row rfl 70 _ rfl k6 rfl 70 (#[.int .i64 (l1 : Nat), .slice R1 r1.length rc1, .int .i64 (n1 : Nat)]) (0, 0) _ K6.out Try.underlying70 rfl (by kernel_rfl) ?_) | (refine wpList_store_row rfl 52 _ _ rfl (w.heap.size + 1) #[.int .i64 0, .int .i64 0, .slice none 0 0, .slice none 0 0] rfl rfl 52 _ Y2 (by kernel_rfl) rfl (by simp [Value.oneCell']) ?_))
        refine ret_c2 (set_row_blk Y2) rfl rfl Try.underlying52 rfl (by kernel_rfl) rfl ?_
        rw [HE.out]
        exact UntP_err rfl (below_row (below_seq HBL.out HB.out) hy1 _)
      have HLM : Hid (¬ 1048576 < (Rg.srch m k d).o cc x) := Lib.hid (by rw [HOX.out]; exact hlim)
      have hlim' : ¬ (1048576 : Int) < uo := hlim
      go_upto_region 18 with fail
      clear hlim hlim'
      obtain ⟨ix, hix⟩ : ∃ ix, ix = Rg.idx (q2.map (·.1)) (l1, r1, n1) := ⟨_, rfl⟩
      have HIX := Lib.hid hix
      clear hix
      go_wp2_with (first | (refine wpList_load_row rfl 70 _ rfl k6 rfl 70 (#[.int .i64 (l1 : Nat), .slice R1 r1.length rc1, .int .i64 (n1 : Nat)]) (0, 0) _ K6.out Try.underlying70 rfl (by kernel_rfl) ?_))
      refine (place_r (some ad) R1 cE2 rc1 q2 l1 n1 r1 wu HRC.out HRB.out (by omega)).mono ?_
      rintro qq wv ⟨rfl, hb⟩
      rw [← HIX.out]
      replace HO := Lib.hid (HO.out.keep hb)
      replace HP := Lib.hid (HP.out.keep hb)
      replace HK := Lib.hid (HK.out.trans (Kt.below hb))
      replace HB := Lib.hid (below_seq HB.out hb)
      replace HOWN := Lib.hid (fun h => own_keep (HOWN.out h) hb)
      replace K6 := Lib.hid (K6.out.keep hb)
      replace hsz : w1.heap.size ≤ wv.heap.size := HB.out.size
      replace hbr : wr.heap.size ≤ wv.heap.size := HK.out.size
      clear hb HRC HRB HRR wu
      obtain ⟨wu, hwu⟩ : ∃ z, z = wv := ⟨_, rfl⟩
      subst hwu
      by_cases hin : (l1, r1, n1) ∈ q2.map (·.1)
      · have hI := HW.out.old HSO.out HOK.out HXK.out (by have := HLM.out; omega) (by rw [HNX.out]; exact hin)
        rw [HNX.out, HOX.out, ← HIX.out] at hI
        have hil : ix < q2.length := by have := Rg.idx_lt.2 hin; rw [← HIX.out, List.length_map] at this; exact this
        have HI := Lib.hid hI
        have e1 : ((ix : Int) == (q2.length : Int)) = false := beq_eq_false_iff_ne.2 (by omega)
        have e1' : (ix == q2.length) = false := beq_eq_false_iff_ne.2 (by omega)
        clear hin HLM hI
        go_upto_region 23 with fail
        clear e1 e1'
        go_upto_region 14 with (first | (at_builtin; refine appL elI_len (by decide) rfl (.tmp 82) (.tmp 84) 22 3 _ _ rfl Try.underlying22 infoI rfl (by decide) (y := uo) rfl rfl rfl rfl HP2.out.o elI_one ho6 hbs5 ?_; intro v6 w6 ho6' hg6 hl6 hbb6 _) | (at_builtin; refine appL elI_len (by decide) rfl (.tmp 78) (.tmp 80) 22 3 _ _ rfl Try.underlying22 infoI rfl (by decide) (y := (ix : Int)) rfl rfl rfl rfl HP.out.n elI_one hq6 hbr ?_; intro v5 w5 ho5 hg5 hl5 hbb5 hbs5; have HP2 := Lib.hid (HP.out.pushN ho5 hg5 hl5)))
        have HO2 := HO.out.growN hg5 hl5 (own_bad (HP.out.n.alloc _))
        have HP3 := Lib.hid (HP2.out.pushO ho6' hg6 hl6)
        replace HO := Lib.hid (HO2.growO hg6 hl6 (own_bad (HP2.out.o.alloc _)))
        replace HK := Lib.hid ((HK.out.far (hbb5 wr.heap.size _ (Nat.le_refl _) (Below.refl _ _))).far (hbb6 wr.heap.size _ (Nat.le_refl _) (Below.refl _ _)))
        replace HB := Lib.hid (hbb6 w1.heap.size w1 hbs (hbb5 w1.heap.size w1 hbs HB.out))
        clear HO2 ho5 hg5 hl5 hbb5 ho6' hg6 hl6 hbb6 HP2 HP
        go_wp2_with fail
        go_roundw
        case rel => exact ⟨x + 1, q2, _, _, by omega, by go_num, HO, HP3, HI, HK, HB⟩
        case measure => simp [intOf] <;> omega
      have hixl : ix = q2.length := by rw [HIX.out, Rg.idx_eq.2 hin, List.length_map]
      clear HIX
      subst hixl
      by_cases hfull : 128 ≤ q2.length
      · have hr1 := HW.out.full HXK.out (by have := HLM.out; omega) (by rw [HNX.out]; exact hin) (by rw [List.length_map]; exact hfull)
        have hge : ((q2.length : Int) == 128) = true := by rw [beq_iff_eq]; omega
        have hge' : (q2.length == 128) = true := by rw [beq_iff_eq]; omega
        clear hin hfull
        have HE := Lib.hid (Rg.unf_err HM.out HPB.out (by decide) (HS.out.err HJM.out HJC.out (by decide) hr1))
        have Y2 := HY0.out wu HB.out
        clear hr1
        go_wp2_with (first | (refine wpList_load_row rfl 70 _ rfl k6 rfl 70 (#[.int .i64 (l1 : Nat), .slice R1 r1.length rc1, .int .i64 (n1 : Nat)]) (0, 0) _ K6.out Try.underlying70 rfl (by kernel_rfl) ?_) | (refine wpList_store_row rfl 52 _ _ rfl (w.heap.size + 1) #[.int .i64 0, .int .i64 0, .slice none 0 0, .slice none 0 0] rfl rfl 52 _ Y2 (by kernel_rfl) rfl (by simp [Value.oneCell']) ?_))
        refine ret_c2 (set_row_blk Y2) rfl rfl Try.underlying52 rfl (by kernel_rfl) rfl ?_
        rw [HE.out]
        exact UntP_err rfl (below_row (below_seq HBL.out HB.out) hy1 _)
      have hI := HW.out.new HSO.out HOK.out HXK.out (by have := HLM.out; omega) (by rw [HNX.out]; exact hin) (by rw [List.length_map]; exact hfull)
      rw [HNX.out, HOX.out, List.length_map] at hI
      have hmap : q2.map (·.1) ++ [(l1, r1, n1)] = (q2 ++ [((l1, r1, n1), R1, rc1)]).map (·.1) := by simp
      rw [hmap] at hI
      have HI := Lib.hid hI
      have hpos : Rg.uPoss d n (x % (d + 1)) = true := by
        cases hp : Rg.uPoss d n (x % (d + 1)) with
        | true => rfl
        | false =>
          have h2 := HCN.out
          rw [Rg.uN_no (c := (l, r, n)) hp, ← HCCE.out] at h2
          exact absurd (h2 ▸ List.mem_of_getElem? HW.out.at_) hin
      have HROW := Lib.hid (own_mono (HOWN.out hpos) hwys)
      have HRNE : Hid (∀ g, (rowV ((l1, r1, n1), R1, rc1)).ownBlock = some g → (Value.slice N1 ns.length e1).ownBlock ≠ some g ∧ (Value.slice N2 os.length e2).ownBlock ≠ some g) := Lib.hid (fun g hg => HLTN.out g (World.ownsRow.lt (HOWN.out hpos) g hg).1)
      have hge : ((q2.length : Int) == 128) = false := beq_eq_false_iff_ne.2 (by omega)
      have hge' : (q2.length == 128) = false := beq_eq_false_iff_ne.2 (by omega)
      clear hin HLM hI hmap hpos
      have hq7 : q2.length ≤ 1099511627776 := by omega
      have ho7' := HO.out.own
      go_upto_region 23 with (first | (refine wpList_load_row rfl 70 _ rfl k6 rfl 70 (#[.int .i64 (l1 : Nat), .slice R1 r1.length rc1, .int .i64 (n1 : Nat)]) (0, 0) _ K6.out Try.underlying70 rfl (by kernel_rfl) ?_) | (at_builtin; refine appL elS_len (by decide) rfl (.tmp 74) (.tmp 76) 87 70 _ _ rfl Try.underlying87 infoS rfl (by decide) (y := ((l1, r1, n1), R1, rc1)) rfl rfl rfl rfl ho7' elS_one hq7 hsz ?_; intro v7 w7 ho7 hg7 _ hbb7 _))
      have hk1 : Kt (isT 70) wu w7 := app_kt ho7' hg7
      replace HO := Lib.hid (HO.out.push ho7 hk1 HROW.out HRNE.out)
      replace HP := Lib.hid (HP.out.kt hk1 (isT_ne (by decide)))
      replace HK := Lib.hid (HK.out.trans hk1)
      replace HB := Lib.hid (hbb7 w1.heap.size w1 (Nat.le_refl _) HB.out)
      replace hbr : wr.heap.size ≤ w7.heap.size := HK.out.size
      clear hk1 ho7 hg7 hbb7 K6 hsz hq7 hge hge' ho7' HROW HRNE
      generalize hq9 : q2.length = p9 at *
      go_upto_region 14 with (first | (at_builtin; refine appL elI_len (by decide) rfl (.tmp 82) (.tmp 84) 22 3 _ _ rfl Try.underlying22 infoI rfl (by decide) (y := uo) rfl rfl rfl rfl HP2.out.o elI_one ho6 hbs5 ?_; intro v6 w6 ho6' hg6 hl6 hbb6 _) | (at_builtin; refine appL elI_len (by decide) rfl (.tmp 78) (.tmp 80) 22 3 _ _ rfl Try.underlying22 infoI rfl (by decide) (y := (p9 : Int)) rfl rfl rfl rfl HP.out.n elI_one hq6 hbr ?_; intro v5 w5 ho5 hg5 hl5 hbb5 hbs5; have HP2 := Lib.hid (HP.out.pushN ho5 hg5 hl5)))
      have HO2 := HO.out.growN hg5 hl5 (own_bad (HP.out.n.alloc _))
      have HP3 := Lib.hid (HP2.out.pushO ho6' hg6 hl6)
      replace HO := Lib.hid (HO2.growO hg6 hl6 (own_bad (HP2.out.o.alloc _)))
      replace HK := Lib.hid ((HK.out.far (hbb5 wr.heap.size _ (Nat.le_refl _) (Below.refl _ _))).far (hbb6 wr.heap.size _ (Nat.le_refl _) (Below.refl _ _)))
      replace HB := Lib.hid (hbb6 w1.heap.size w1 hbs (hbb5 w1.heap.size w1 hbs HB.out))
      clear HO2 ho5 hg5 hl5 hbb5 ho6' hg6 hl6 hbb6 HP2 HP
      go_wp2_with fail
      go_roundw
      case rel => exact ⟨x + 1, q2 ++ [((l1, r1, n1), R1, rc1)], _, _, by omega, by go_num, HO, HP3, HI, HK, HB⟩
      case measure => simp [intOf] <;> omega
end Go.Proofs.Ytaoebjabdejpoaa
