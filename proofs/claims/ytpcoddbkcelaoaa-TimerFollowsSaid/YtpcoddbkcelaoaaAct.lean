/- The code's table of the timers that run. -/
import Derived.Test.YtpcoddbkcelaoaaGrd
import Derived.Test.YtpcoddbkcelaoaaActR
import Derived.Test.YtpcoddbkcelaoaaAftP
namespace Go.Proofs.Ytpcoddbkcelaoaa
open Go.RowKit

theorem pc_c0 (S T : Nat) : pc (Tm.c0 S T) = #[.int .i64 (S : Nat), .bool false, .bool false, .bool false, .bool false] := by
  have h : ∀ x, (List.replicate T false).getD x false = false := by
    intro x; rw [List.getD_eq_getElem?_getD, List.getElem?_replicate]; split <;> rfl
  simp only [pc, Tm.c0, h]
set_option maxRecDepth 100000 in
set_option maxHeartbeats 8000000 in
theorem active_p (m : Tm.M) (A B C : Option Addr) (c d e : Nat) (w : World) (hR : RdT w A B C m) :
    Calls Try.prog 11 #[.agg #[.int .i64 m.I, .int .i64 m.T, .int .i64 m.S, .slice A m.nx.length c, .slice B m.out.length d, .slice C m.set.length e]] w (ActP m w) := by
  have HR := Lib.hid hR
  clear hR
  go_enter Try.func11, Try.ntmps11
  go_upto_region 1 with fail
  generalize hwb : World.alloc _ _ = w0
  have BX : Hid (Blk w0 w.heap.size 25 (tc m A c B d C e)) := Lib.hid (by rw [← hwb]; exact Blk.new _ _ _)
  have HBL : Hid (Below w.heap.size w w0) := Lib.hid (by rw [← hwb]; exact (Below.refl _ _).alloc (Nat.le_refl _) _)
  clear hwb
  go_wp2_with (first | (refine wpList_load_row rfl 25 _ rfl w.heap.size rfl 25 (tc m A c B d C e) (0, 0) _ BX.out Try.underlying25 rfl (by kernel_rfl) ?_))
  refine (tvalid_p m A B C c d e w0 (HR.out.keep HBL.out)).mono ?_
  rintro r w1 ⟨rfl, hb⟩
  replace BX := Lib.hid (BX.out.keep hb)
  replace HBL := Lib.hid (below_seq HBL.out hb)
  clear hb w0
  by_cases hv : Tm.validE m = 0
  rotate_left
  · have HV := Lib.hid hv
    obtain ⟨q, hq⟩ : ∃ q, q = Tm.validE m := ⟨_, rfl⟩
    rw [← hq] at hv ⊢
    have hbz : (q != 0) = true := by rw [bne_iff_ne]; exact hv
    have HQ := Lib.hid hq
    clear hv hq
    go_wp2
    go_ret2
    rw [HQ.out]
    exact ⟨⟨_, rfl, .inl ⟨HV.out, rfl⟩⟩, HBL.out⟩
  have HV := Lib.hid hv
  rw [hv]
  obtain ⟨k, T, S, hok⟩ := Tm.ok_of hv
  have HM := Lib.hid hok
  have h4 := hok.t4
  have h64 := hok.k64
  have h128 := hok.n128
  clear hv hok
  have HT := Lib.hid (HR.out.keep HBL.out)
  clear HR
  have BT := Lib.hid (boxT BX.out)
  have c3 := BT.out.c3
  have c1 := BT.out.c1
  rw [HM.out.T'] at c1
  have c0 := BT.out.c0
  rw [HM.out.I] at c0
  have c2 := BT.out.c2
  rw [HM.out.S'] at c2
  have HC0 : Hid (∀ wz, Below w1.heap.size w1 wz → Blk wz w.heap.size 25 (tc m A c B d C e)) := Lib.hid (fun wz hz => BX.out.keep hz)
  have hmk0 := run_make_row' (P := Try.prog) 28 62 (.slice none 0 0) 24 Try.underlying28 infoGP rfl .i64 .i64 m.nx.length (by omega) (by omega)
  have hmk1 := run_make_row' (P := Try.prog) 62 4 (.bool false) 1 Try.underlying62 info4 rfl .i64 .i64 T (by omega) (by omega)
  clear BT
  go_upto_region 5 with fail
  generalize hwb : World.alloc _ _ = wa
  have HG0 := Lib.hid (show GridP wa w1.heap.size m.nx.length T w1.heap.size [] (fun _ _ => false) by rw [← hwb]; exact GridP.made w1 m.nx.length T)
  have HB0 : Hid (Below w1.heap.size w1 wa) := Lib.hid (by rw [← hwb]; exact (Below.refl _ _).alloc (Nat.le_refl _) _)
  clear hwb hmk0
  generalize hbo : w1.heap.size = bo at HG0 ⊢
  have HBO := Lib.hid hbo
  clear hbo
  go_upto_region 6 with fail
  go_loopw [6, 28] (fun s i wr => ∃ (j : Nat) (gs : List Nat), j ≤ m.nx.length ∧ i = .int .i64 j ∧ gs.length = j ∧ Hid (GridP wr bo m.nx.length T bo gs (fun _ _ => false)) ∧ Hid (Below w1.heap.size w1 wr)) (fun _ i _ => m.nx.length - (intOf i).toNat)
  case atStart => exact ⟨0, [], Nat.zero_le _, rfl, rfl, HG0, HB0⟩
  case round =>
    clear HG0 HB0
    obtain ⟨j, gs, hj, rfl, hgl, HG, HB⟩ := hrel
    have b1 := keep_cell HB.out c1
    have hsz : bo ≤ wr.heap.size := by have := HB.out.size; rw [HBO.out] at this; exact this
    by_cases hjl : j < m.nx.length
    · have hj' : (j : Int) < (m.nx.length : Int) := by omega
      have r0 := rowIs_keep HG.out.own ((Below.refl wr.heap.size wr).alloc (Nat.le_refl _) (.cells (madeCells #[.bool false] T) 4))
      have f0 := r0.frozen j
      have r1 := r0.cell hjl
      have HG6 := Lib.hid (HG.out.push hsz (fun _ => rfl))
      rw [hgl] at HG6
      have HAL : Hid (Below w1.heap.size w1 (wr.alloc (.cells (madeCells #[.bool false] T) 4))) := Lib.hid (HB.out.alloc HB.out.size _)
      clear r0
      go_wp2_with fail
      go_roundw
      case rel => exact ⟨j + 1, gs ++ [wr.heap.size], by omega, by go_num, by simp [hgl], HG6, Lib.hid (HAL.out.setCell (Nat.le_of_eq HBO.out) _)⟩
      case measure => simp [intOf] <;> omega
    have hj' : ¬ (j : Int) < (m.nx.length : Int) := by omega
    obtain rfl : j = m.nx.length := by omega
    clear hjl hj b1
    have b2 := keep_cell HB.out c2
    go_upto_region 10 with fail
    clear hj' hmk1
    have KZ := Blk.new wr 66 #[.int .i64 0, .bool false, .bool false, .bool false, .bool false]
    go_upto_region 11 with (first | (refine wpList_store_row rfl 66 _ _ rfl wr.heap.size #[.int .i64 (S : Nat), .bool false, .bool false, .bool false, .bool false] rfl rfl 66 _ KZ (by kernel_rfl) rfl (by simp [Value.oneCell']) ?_))
    generalize hwb : World.setRow _ _ _ = wq
    have hal : Below wr.heap.size wr wq := by rw [← hwb]; exact below_row ((Below.refl _ _).alloc (Nat.le_refl _) _) (Nat.le_refl _) _
    have P7 : Hid (Blk wq wr.heap.size 66 (pc (Tm.c0 S T))) := Lib.hid (by rw [← hwb, pc_c0]; exact set_row_blk KZ)
    have HGq := Lib.hid (HG.out.keep hal)
    have HBq := Lib.hid (below_seq HB.out hal)
    have hsq : bo ≤ wq.heap.size := Nat.le_trans hsz hal.size
    clear hwb hal KZ b2
    generalize wr.heap.size = p7 at *
    clear HG HB hsz wr
    obtain ⟨wm, hput, hseen, hgr⟩ := (SeenB.made wq m.nx.length T).put (c := Tm.c0 S T) (Tm.c0_ok HM.out) h128 h4 (by unfold maxLen; omega)
    have P7m := P7.out.alloc (.map #[] 0)
    have HGR := Lib.hid hgr
    have HSEEN := Lib.hid hseen
    clear hgr hseen
    have hmm := @run_makeMap Try.prog
    go_upto_region 12 with (first | (refine wpList_load_row rfl 66 _ rfl p7 rfl 66 (pc (Tm.c0 S T)) (0, 0) _ P7m Try.underlying66 rfl (by kernel_rfl) ?_))
    clear hput P7m hmm
    have HGm := Lib.hid ((HGq.out.keep ((Below.refl wq.heap.size wq).alloc (Nat.le_refl _) (.map #[] 0))).grown HGR.out (fun g t k fn _ hr e => rowIs_ne_map hr (heap_alloc_new wq _) (Option.some.inj e)))
    have HBm := Lib.hid (below_grown (HBq.out.alloc HBq.out.size (.map #[] 0)) HGR.out HBq.out.size (Nat.le_trans HBq.out.size (by simp)))
    have hbm : bo ≤ wq.heap.size := hsq
    have hsm : bo ≤ wm.heap.size := by have := HGR.out.size; rw [asize] at this; omega
    have P7n : Hid (Blk wm p7 66 (pc (Tm.c0 S T))) := Lib.hid ((P7.out.alloc (.map #[] 0)).grown HGR.out (fun e => by have := P7.out.lt; injection e with e; omega))
    generalize wq.heap.size = bm at *
    clear HGR HGq HBq P7 hsq wq
    have P7e := P7n.out
    rw [pc_c0] at P7e
    go_upto_region 13 with (first | (refine wpList_load_row rfl 66 _ rfl p7 rfl 66 (#[.int .i64 (S : Nat), .bool false, .bool false, .bool false, .bool false]) (0, 0) _ P7e Try.underlying66 rfl (by kernel_rfl) ?_))
    clear P7e
    generalize hwb : World.alloc _ _ = wn
    have HA0 : Hid (ActW wn bo m.nx.length T bo bm 1 gs (fun s x => Tm.actv (([Tm.c0 S T] : List Tm.Cfg).take 0) s x) [Tm.c0 S T] [Tm.c0 S T] (.slice (some ⟨wm.heap.size, 0, none⟩) 1 1)) := Lib.hid (by
      have hal : Below wm.heap.size wm wn := by rw [← hwb]; exact (Below.refl _ _).alloc (Nat.le_refl _) _
      exact ⟨(HGm.out.keep hal).congr (fun s x _ _ => rfl), HSEEN.out.keep hal, OwnL.one hsm (by rw [← hwb, pc_c0]; exact Blk.new _ _ _), hbm⟩)
    have HB0 := Lib.hid (show Below w1.heap.size w1 wn by rw [← hwb]; exact HBm.out.alloc (HBO.out ▸ hsm) _)
    clear hwb HGm HBm HSEEN P7n hsm
    generalize wm.heap.size = q0 at *
    clear wm
    have HS0 := Lib.hid (Tm.Sea.start HM.out)
    go_upto_region 14 with fail
    go_loopw [9, 10] (fun v a wr => ∃ (j : Nat) (q : List Tm.Cfg), a = .int .i64 j ∧ Hid (ActW wr bo m.nx.length T bo bm q.length gs (fun s x => Tm.actv (q.take j) s x) q q v) ∧ Hid (Tm.Sea m k T S j q) ∧ Hid (Below w1.heap.size w1 wr)) (fun _ a _ => 3000 - (intOf a).toNat)
    case atStart => exact ⟨0, [Tm.c0 S T], rfl, HA0, HS0, HB0⟩
    case round =>
      clear HA0 HB0 HS0
      obtain ⟨j, q, rfl, HA, HS, HB⟩ := hrel
      obtain ⟨E, cE, rfl⟩ := own_slice HA.out.que
      have hql : q.length ≤ 2048 := by have := HS.out.good.len16 h4; omega
      by_cases hj : j < q.length
      rotate_left
      · have hj' : ¬ (j : Int) < (q.length : Int) := by omega
        go_wp2
        go_ret2
        refine ⟨⟨_, by rw [HV.out]; rfl, .inr ⟨k, T, S, _, _, HM.out, rfl, ?_⟩⟩, below_seq HBL.out HB.out⟩
        have h1 := HA.out.grid.rd hgl rfl (by omega) (by omega)
        rw [show q.take j = Tm.reach m k T S by rw [← HS.out.fin hj]; exact List.take_of_length_le (by omega)] at h1
        exact h1
      have hj' : (j : Int) < (q.length : Int) := by omega
      obtain ⟨cc, hcc⟩ : ∃ cc, q[j]? = some cc := ⟨_, List.getElem?_eq_getElem hj⟩
      have HW := Lib.hid (Tm.RowS.start HM.out HS.out hcc)
      obtain ⟨ad, rfl, hcell⟩ := (OwnL.rd pcl_len HA.out.que (by omega)).2.at_ hcc
      have HCL := Lib.hid (RdL.whole (w := wr) (ad := ad) (i := j) (x := cc) (el := pcl) (size := 5) hcell)
      have HCC := Lib.hid hcc
      clear hcc HS hcell
      have KZ := Blk.new wr 66 #[.int .i64 0, .bool false, .bool false, .bool false, .bool false]
      go_upto_region 17 with (first | (refine wpList_load_any rfl 66 _ rfl (ad.add (j * 5)) rfl [.int .i64 (cc.1 : Nat), .bool (cc.2.getD 0 false), .bool (cc.2.getD 1 false), .bool (cc.2.getD 2 false), .bool (cc.2.getD 3 false)] _ HCL.out Try.underlying66 rfl (by kernel_rfl) ?_) | (refine wpList_store_row rfl 66 _ _ rfl wr.heap.size #[.int .i64 (cc.1 : Nat), .bool (cc.2.getD 0 false), .bool (cc.2.getD 1 false), .bool (cc.2.getD 2 false), .bool (cc.2.getD 3 false)] rfl rfl 66 _ KZ (by kernel_rfl) rfl (by simp [Value.oneCell']) ?_))
      generalize hwb : World.setRow _ _ _ = wq
      have hal : Below wr.heap.size wr wq := by rw [← hwb]; exact below_row ((Below.refl _ _).alloc (Nat.le_refl _) _) (Nat.le_refl _) _
      have PB : Hid (Blk wq wr.heap.size 66 (pc cc)) := Lib.hid (by rw [← hwb]; exact set_row_blk KZ)
      have HNE := Lib.hid (own_ne_new HA.out.que)
      have hsr : w1.heap.size ≤ wr.heap.size := HB.out.size
      replace HA := Lib.hid (HA.out.keep hal)
      replace HB := Lib.hid (below_seq HB.out hal)
      clear hwb hal KZ HCL
      generalize wr.heap.size = pb at *
      clear wr hj'
      rename World => wr
      have b1 := keep_cell HB.out c1
      go_upto_region 18 with fail
      clear b1
      have HOK := Lib.hid (HW.out.ok)
      go_loopw [58] (fun i wy => ∃ x : Nat, x ≤ T ∧ i = .int .i64 x ∧ Hid (ActW wy bo m.nx.length T bo bm q.length gs (fun s y => Tm.actv (q.take j) s y || (decide (cc.1 = s) && decide (y < x) && cc.2.getD y false)) q q (.slice (some ad) q.length cE)) ∧ Hid (Blk wy pb 66 (pc cc)) ∧ Hid (Below w1.heap.size w1 wy)) (fun i _ => T - (intOf i).toNat)
      case atStart => exact ⟨0, Nat.zero_le _, rfl, Lib.hid (HA.out.congr fun s x _ _ => by simp), PB, HB⟩
      case round =>
        clear HA HB PB
        obtain ⟨x, hx, rfl, HA, PB, HB⟩ := hrel
        rename World => wz
        by_cases hxT : x < T
        rotate_left
        · obtain rfl : T = x := by omega
          have hxT' : ¬ (T : Int) < (T : Int) := by omega
          have b0 := keep_cell HB.out c0
          have b1 := keep_cell HB.out c1
          go_upto_region 23 with fail
          clear b0 b1 hxT' hxT hx
          have HA4 := Lib.hid (HA.out.congr (f' := fun s y => Tm.actv (q.take (j + 1)) s y) fun s y _ hy => by rw [Tm.actv_take HCC.out, decide_eq_true hy, Bool.and_true])
          go_loopw [9, 88] (fun v i wy => ∃ (x : Nat) (q : List Tm.Cfg), i = .int .i64 x ∧ Hid (ActW wy bo m.nx.length T bo bm q.length gs (fun s y => Tm.actv (q.take (j + 1)) s y) q q v) ∧ Hid (Tm.RowS m k T S j cc x q) ∧ Hid (v.ownBlock ≠ some pb) ∧ Hid (Blk wy pb 66 (pc cc)) ∧ Hid (Below w1.heap.size w1 wy)) (fun _ i _ => 100 - (intOf i).toNat)
          case atStart => exact ⟨0, q, rfl, HA4, HW, HNE, PB, HB⟩
          case round =>
            clear HA4 HA HW PB HB HCC hj hql HNE
            obtain ⟨x, q2, rfl, HA, HW, HNE, PB, HB⟩ := hrel
            rename World => wy
            obtain ⟨E, cE, rfl⟩ := own_slice HA.out.que
            have hql : q2.length ≤ 2048 := by have := HW.out.good.len16 h4; omega
            have hjl : j < q2.length := (List.getElem?_eq_some_iff.1 HW.out.get).1
            have hsz : w1.heap.size ≤ wy.heap.size := HB.out.size
            by_cases hx : x < k + T
            rotate_left
            · have hx' : ¬ (x : Int) < (k : Int) + (T : Int) := by omega
              go_wp2_with fail
              go_roundw
              case rel => exact ⟨j + 1, q2, by go_num, HA, Lib.hid (HW.out.fin hx), HB⟩
              case measure => simp [intOf] <;> omega
            have hx' : (x : Int) < (k : Int) + (T : Int) := by omega
            have BX' := HC0.out wy HB.out
            go_upto_region 25 with fail
            clear hx'
            go_wp2_with (first | (refine wpList_load_row rfl 25 _ rfl w.heap.size rfl 25 (tc m A c B d C e) (0, 0) _ BX' Try.underlying25 rfl (by kernel_rfl) ?_) | (refine wpList_load_row rfl 66 _ rfl pb rfl 66 (pc cc) (0, 0) _ PB.out Try.underlying66 rfl (by kernel_rfl) ?_))
            refine (after_p m k T S cc x A B C c d e wy HM.out HW.out.ok hx (HT.out.keep HB.out)).mono ?_
            rintro r w5 ⟨rfl, hb⟩
            clear BX'
            replace HA := Lib.hid (HA.out.keep hb)
            replace PB := Lib.hid (PB.out.keep hb)
            replace HB := Lib.hid (below_seq HB.out hb)
            have hs5 : w1.heap.size ≤ w5.heap.size := HB.out.size
            clear hb hsz wy
            have KZ := Blk.new w5 66 #[.int .i64 0, .bool false, .bool false, .bool false, .bool false]
            go_upto_region 26 with (first | (refine wpList_store_row rfl 66 _ _ rfl w5.heap.size (pc (resC m k cc x)) rfl rfl 66 _ KZ (by kernel_rfl) rfl (pc_one _) ?_))
            generalize hwb : World.setRow _ _ _ = wy
            have hal : Below w5.heap.size w5 wy := by rw [← hwb]; exact below_row ((Below.refl _ _).alloc (Nat.le_refl _) _) (Nat.le_refl _) _
            have PN : Hid (Blk wy w5.heap.size 66 (pc (resC m k cc x))) := Lib.hid (by rw [← hwb]; exact set_row_blk KZ)
            replace HA := Lib.hid (HA.out.keep hal)
            replace PB := Lib.hid (PB.out.keep hal)
            replace HB := Lib.hid (below_seq HB.out hal)
            clear hwb hal KZ
            generalize w5.heap.size = pn at *
            clear hs5 w5
            cases hp : Tm.poss k cc x with
            | false =>
              have HW2 := Lib.hid (HW.out.skip hx hp)
              go_wp2_with fail
              go_roundw
              case rel => exact ⟨x + 1, q2, by go_num, HA, HW2, HNE, PB, HB⟩
              case measure => simp [intOf] <;> omega
            | true =>
              have hres : resC m k cc x = Tm.aftC m k cc x := by unfold resC; rw [if_pos hp]
              rw [hres] at PN ⊢
              have HOA := Lib.hid (Tm.aft_ok HM.out HW.out.ok hx)
              have HOLD : Hid (Tm.aftC m k cc x ∈ q2 → Tm.RowS m k T S j cc (x + 1) q2) := Lib.hid (HW.out.old hx hp)
              have HNEW : Hid (Tm.aftC m k cc x ∉ q2 → Tm.RowS m k T S j cc (x + 1) (q2 ++ [Tm.aftC m k cc x])) := Lib.hid (Tm.RowS.new HM.out HW.out hx hp)
              clear hres hp
              generalize Tm.aftC m k cc x = cn at *
              have hz : (zeroValue 4).run Try.prog wy = .ok (.bool false) wy := by rfl
              obtain ⟨z0, z1, z2, z3, z4, hpc⟩ : ∃ (z0 : Int) (z1 z2 z3 z4 : Bool), pc cn = #[.int .i64 z0, .bool z1, .bool z2, .bool z3, .bool z4] := ⟨_, _, _, _, _, rfl⟩
              have hlook := HA.out.seen.at_ HOA.out h128 hz
              have PNq := PN.out
              rw [hpc] at hlook PNq
              have n0 : wy.cell? ⟨pn, 0, none⟩ = some (.int .i64 z0) := PNq.cell 0
              have n1 : wy.cell? ⟨pn, 1, none⟩ = some (.bool z1) := PNq.cell 1
              have n2 : wy.cell? ⟨pn, 2, none⟩ = some (.bool z2) := PNq.cell 2
              have n3 : wy.cell? ⟨pn, 3, none⟩ = some (.bool z3) := PNq.cell 3
              have n4 : wy.cell? ⟨pn, 4, none⟩ = some (.bool z4) := PNq.cell 4
              clear PNq hpc
              clear hz
              by_cases hin : cn ∈ q2
              · rw [decide_eq_true hin] at hlook
                have HI := Lib.hid (HOLD.out hin)
                clear hin HOLD HNEW
                go_wp2_with fail
                go_roundw
                case rel => exact ⟨x + 1, q2, by go_num, HA, HI, HNE, PB, HB⟩
                case measure => simp [intOf] <;> omega
              · rw [decide_eq_false hin] at hlook
                have HI := Lib.hid (HNEW.out hin)
                clear hin HOLD HNEW
                go_upto_region 27 with fail
                clear n0 n1 n2 n3 n4 hlook
                obtain ⟨wm, hput, hseen, hgr⟩ := HA.out.seen.put HOA.out h128 h4 (by unfold maxLen; omega)
                have HGR := Lib.hid hgr
                have HSEEN := Lib.hid hseen
                have PN' := PN.out
                clear hgr hseen
                go_upto_region 28 with (first | (refine wpList_load_row rfl 66 _ rfl pn rfl 66 (pc cn) (0, 0) _ PN' Try.underlying66 rfl (by kernel_rfl) ?_))
                clear hput PN'
                obtain ⟨es, cl, hm⟩ := HA.out.seen.map
                have HM2 := Lib.hid hm
                have PN2 := Lib.hid (PN.out.grown HGR.out (fun e => by have h := PN.out; unfold Blk at h; injection e with e; rw [e, hm] at h; cases h))
                have PB2 := Lib.hid (PB.out.grown HGR.out (fun e => by have h := PB.out; unfold Blk at h; injection e with e; rw [e, hm] at h; cases h))
                have HA2 := Lib.hid (HA.out.put HSEEN.out HGR.out)
                have HB2 := Lib.hid (below_grown HB.out HGR.out (by have := HA.out.gem; rw [← HBO.out] at this; exact this) HB.out.size)
                clear hm HM2 HA PN PB HB HGR HSEEN wy
                have hq6 : q2.length ≤ 1099511627776 := by omega
                have hsm : bo ≤ wm.heap.size := by have := HB2.out.size; rw [HBO.out] at this; exact this
                have PN3 := PN2.out
                go_upto_region 29 with (first | (refine wpList_load_row rfl 66 _ rfl pn rfl 66 (#[.int .i64 (cn.1 : Nat), .bool (cn.2.getD 0 false), .bool (cn.2.getD 1 false), .bool (cn.2.getD 2 false), .bool (cn.2.getD 3 false)]) (0, 0) _ PN3 Try.underlying66 rfl (by kernel_rfl) ?_) | (at_builtin; refine appL pcl_len (by decide) rfl (.tmp 108) (.tmp 110) 68 66 _ _ rfl Try.underlying68 infoP rfl (by decide) (y := cn) rfl rfl rfl rfl HA2.out.que pcl_one hq6 hsm ?_; intro v5 w6 hown' hgr' hloc hbb _))
                have HA3 := Lib.hid (HA2.out.push hown' hgr')
                have HB3 := Lib.hid (hbb w1.heap.size w1 (Nat.le_of_eq HBO.out) HB2.out)
                have hpn : pn < wm.heap.size := PN2.out.lt
                have hpb : pb < wm.heap.size := PB2.out.lt
                have HNE3 : Hid (v5.ownBlock ≠ some pb) := Lib.hid (by
                  rcases hloc with e | e
                  · rw [e]; exact HNE.out
                  · rw [e]; intro h; injection h with h; omega)
                have PB3 : Hid (Blk w6 pb 66 (pc cc)) := Lib.hid ((PB2.out.alloc _).grown hgr' (fun e => HNE.out e.symm))
                clear hown' hgr' hbb hloc
                go_wp2_with fail
                go_roundw
                case rel => exact ⟨x + 1, q2 ++ [cn], by go_num, Lib.hid (by rw [List.length_append]; exact HA3.out.congr (fun s y _ _ => by rw [List.take_append_of_le_length (by omega)])), HI, HNE3, PB3, HB3⟩
                case measure => simp [intOf] <;> omega
        have hxT' : (x : Int) < (T : Int) := by omega
        have hx4 : x < 4 := by omega
        have hx4' : (x : Int) < 4 := by omega
        have hsn : cc.1 < gs.length := by rw [hgl]; exact HOK.out.1
        obtain ⟨gg, hgg⟩ : ∃ gg, gs[cc.1]? = some gg := ⟨_, List.getElem?_eq_getElem hsn⟩
        have hsl := slot_some (T := T) hgg
        have hsn' : (cc.1 : Int) < (m.nx.length : Int) := by omega
        have hsn2 : cc.1 < m.nx.length := by omega
        have HGG := Lib.hid hgg
        clear hgg
        obtain ⟨b1, hb1⟩ : ∃ b1, (Tm.actv (q.take j) cc.1 x || (decide (cc.1 = cc.1) && decide (x < x) && cc.2.getD x false)) = b1 := ⟨_, rfl⟩
        obtain ⟨b2, hb2⟩ : ∃ b2, cc.2.getD x false = b2 := ⟨_, rfl⟩
        have HB1 := Lib.hid hb1
        have HB2 := Lib.hid hb2
        clear hb1 hb2
        go_upto_region 20 with fail
        cases b1 with
        | true =>
          refine wp_region_held_drew (S := fun wx => Blk wx pb 66 (pc cc) ∧ wx.rowIs bo 62 m.nx.length (slot gs T)) (by kernel_rfl) (⟨PB.out, HA.out.grid.own⟩) (fun hS => ?_)
          refine takeH (i := 0) (d := some 61) (v := ?_) rfl rfl (by kernel_rfl) (by kernel_rfl) (by kernel_rfl) (fun _ _ _ h => h) (Or.inl ⟨by rfl, ?_⟩) hS ?_
          rotate_left
          · intro wx hSx; clear hSx; first | (go_simp; done) | (go_simp; with_reducible rfl)
          simp only [Act.put, List.setIfInBounds_toArray, List.set_cons_zero, List.set_cons_succ]
          refine takeH (i := 1) (d := some 62) (v := ?_) rfl rfl (by kernel_rfl) (by kernel_rfl) (by kernel_rfl) (fun _ _ _ h => h) (Or.inl ⟨by rfl, ?_⟩) hS ?_
          rotate_left
          · intro wx hSx; clear hSx; first | (go_simp; done) | (go_simp; with_reducible rfl)
          simp only [Act.put, List.setIfInBounds_toArray, List.set_cons_zero, List.set_cons_succ]
          refine takeH (i := 2) (d := some 63) (v := ?_) rfl rfl (by kernel_rfl) (by kernel_rfl) (by kernel_rfl) (fun _ _ _ h => h) (Or.inl ⟨by rfl, ?_⟩) hS ?_
          rotate_left
          · intro wx hSx; have e0 : wx.cell? ⟨pb, 0, none⟩ = some (.int .i64 (cc.1 : Nat)) := hSx.1.cell 0; have e1 := blk_bit hSx.1 hx4; rw [HB2.out] at e1; have e2 := hSx.2.cell hsn2; rw [hsl] at e2; clear hSx; first | (go_simp; done) | (go_simp; with_reducible rfl)
          simp only [Act.put, List.setIfInBounds_toArray, List.set_cons_zero, List.set_cons_succ]
          refine takeH (i := 3) (d := some 64) (v := ?_) rfl rfl (by kernel_rfl) (by kernel_rfl) (by kernel_rfl) (fun _ _ _ h => h) (Or.inl ⟨by rfl, ?_⟩) hS ?_
          rotate_left
          · intro wx hSx; clear hSx; first | (go_simp; done) | (go_simp; with_reducible rfl)
          simp only [Act.put, List.setIfInBounds_toArray, List.set_cons_zero, List.set_cons_succ]
          refine takeH (i := 4) (d := some 65) (v := ?_) rfl rfl (by kernel_rfl) (by kernel_rfl) (by kernel_rfl) (fun _ _ _ h => h) (Or.inl ⟨by rfl, ?_⟩) hS ?_
          rotate_left
          · intro wx hSx; have e0 : wx.cell? ⟨pb, 0, none⟩ = some (.int .i64 (cc.1 : Nat)) := hSx.1.cell 0; have e1 := blk_bit hSx.1 hx4; rw [HB2.out] at e1; have e2 := hSx.2.cell hsn2; rw [hsl] at e2; clear hSx; first | (go_simp; done) | (go_simp; with_reducible rfl)
          simp only [Act.put, List.setIfInBounds_toArray, List.set_cons_zero, List.set_cons_succ]
          refine takeH (i := 5) (d := some 66) (v := ?_) rfl rfl (by kernel_rfl) (by kernel_rfl) (by kernel_rfl) (fun _ _ _ h => h) (Or.inl ⟨by rfl, ?_⟩) hS ?_
          rotate_left
          · intro wx hSx; clear hSx; first | (go_simp; done) | (go_simp; with_reducible rfl)
          simp only [Act.put, List.setIfInBounds_toArray, List.set_cons_zero, List.set_cons_succ]
          refine takeH (i := 6) (d := some 67) (v := ?_) rfl rfl (by kernel_rfl) (by kernel_rfl) (by kernel_rfl) (fun _ _ _ h => h) (Or.inl ⟨by rfl, ?_⟩) hS ?_
          rotate_left
          · intro wx hSx; clear hSx; first | (go_simp; done) | (go_simp; with_reducible rfl)
          simp only [Act.put, List.setIfInBounds_toArray, List.set_cons_zero, List.set_cons_succ]
          refine takeH (i := 7) (d := some 68) (v := ?_) rfl rfl (by kernel_rfl) (by kernel_rfl) (by kernel_rfl) (fun _ _ _ h => h) (Or.inl ⟨by rfl, ?_⟩) hS ?_
          rotate_left
          · intro wx hSx; clear hSx; first | (go_simp; done) | (go_simp; with_reducible rfl)
          simp only [Act.put, List.setIfInBounds_toArray, List.set_cons_zero, List.set_cons_succ]
          refine takeH (i := 8) (d := some 69) (v := ?_) rfl rfl (by kernel_rfl) (by kernel_rfl) (by kernel_rfl) (fun _ _ _ h => h) (Or.inl ⟨by rfl, ?_⟩) hS ?_
          rotate_left
          · intro wx hSx; have e0 : wx.cell? ⟨pb, 0, none⟩ = some (.int .i64 (cc.1 : Nat)) := hSx.1.cell 0; have e1 := blk_bit hSx.1 hx4; rw [HB2.out] at e1; have e2 := hSx.2.cell hsn2; rw [hsl] at e2; clear hSx; first | (go_simp; done) | (go_simp; with_reducible rfl)
          simp only [Act.put, List.setIfInBounds_toArray, List.set_cons_zero, List.set_cons_succ]
          refine takeH (i := 9) (d := some 70) (v := ?_) rfl rfl (by kernel_rfl) (by kernel_rfl) (by kernel_rfl) (fun _ _ _ h => h) (Or.inl ⟨by rfl, ?_⟩) hS ?_
          rotate_left
          · intro wx hSx; clear hSx; first | (go_simp; done) | (go_simp; with_reducible rfl)
          simp only [Act.put, List.setIfInBounds_toArray, List.set_cons_zero, List.set_cons_succ]
          refine takeH (i := 10) (d := some 71) (v := ?_) rfl rfl (by kernel_rfl) (by kernel_rfl) (by kernel_rfl) (fun _ _ _ h => h) (Or.inl ⟨by rfl, ?_⟩) hS ?_
          rotate_left
          · intro wx hSx; have e0 : wx.cell? ⟨pb, 0, none⟩ = some (.int .i64 (cc.1 : Nat)) := hSx.1.cell 0; have e1 := blk_bit hSx.1 hx4; rw [HB2.out] at e1; have e2 := hSx.2.cell hsn2; rw [hsl] at e2; clear hSx; first | (go_simp; done) | (go_simp; with_reducible rfl)
          simp only [Act.put, List.setIfInBounds_toArray, List.set_cons_zero, List.set_cons_succ]
          refine takeH (i := 11) (d := some 72) (v := ?_) rfl rfl (by kernel_rfl) (by kernel_rfl) (by kernel_rfl) (fun _ _ _ h => h) (Or.inl ⟨by rfl, ?_⟩) hS ?_
          rotate_left
          · intro wx hSx; clear hSx; first | (go_simp; done) | (go_simp; with_reducible rfl)
          simp only [Act.put, List.setIfInBounds_toArray, List.set_cons_zero, List.set_cons_succ]
          refine takeH (i := 12) (d := some 73) (v := ?_) rfl rfl (by kernel_rfl) (by kernel_rfl) (by kernel_rfl) (fun _ _ _ h => h) (Or.inl ⟨by rfl, ?_⟩) hS ?_
          rotate_left
          · intro wx hSx; clear hSx; first | (go_simp; done) | (go_simp; with_reducible rfl)
          simp only [Act.put, List.setIfInBounds_toArray, List.set_cons_zero, List.set_cons_succ]
          generalize hwa : World.drew _ = wa at hS ⊢
          have HAa := Lib.hid (show ActW wa _ _ _ _ _ _ _ _ _ _ _ by rw [← hwa]; exact HA.out.drew)
          have HBa := Lib.hid (show Below w1.heap.size w1 wa by rw [← hwa]; exact HB.out.drew)
          clear hwa
          have HSa := Lib.hid hS
          clear hS
          refine wpAnyH_ready (rs := [13]) (by kernel_rfl) (by simp) ?_
          refine AllReadyH.cons rfl (fun K hK => ?_) AllReadyH.nil
          rw [if_pos (by rfl)]
          have r1 := HAa.out.grid.row cc.1 gg HGG.out |>.cell hxT
          rw [HB1.out] at r1
          go_simp
          refine hK.out _ _ HSa.out (fun hS2 => ?_)
          clear hK K r1 hS2
          try simp only [Act.put, List.setIfInBounds_toArray, List.set_cons_zero, List.set_cons_succ]
          refine takeH (i := 14) (d := some 75) (v := ?_) rfl rfl (by kernel_rfl) (by kernel_rfl) (by kernel_rfl) (fun _ _ _ h => h) (Or.inl ⟨by rfl, ?_⟩) HSa.out ?_
          rotate_left
          · intro wx hSx; clear hSx; first | (go_simp; done) | (go_simp; with_reducible rfl)
          simp only [Act.put, List.setIfInBounds_toArray, List.set_cons_zero, List.set_cons_succ]
          refine takeH (i := 15) (d := some 76) (v := undef) rfl rfl (by kernel_rfl) (by kernel_rfl) (by kernel_rfl) (fun _ _ _ h => h) (Or.inr ⟨by rfl, rfl⟩) HSa.out ?_
          simp only [Act.put, List.setIfInBounds_toArray, List.set_cons_zero, List.set_cons_succ]
          refine takeH (i := 16) (d := some 77) (v := undef) rfl rfl (by kernel_rfl) (by kernel_rfl) (by kernel_rfl) (fun _ _ _ h => h) (Or.inr ⟨by rfl, rfl⟩) HSa.out ?_
          simp only [Act.put, List.setIfInBounds_toArray, List.set_cons_zero, List.set_cons_succ]
          refine takeH (i := 17) (d := some 78) (v := undef) rfl rfl (by kernel_rfl) (by kernel_rfl) (by kernel_rfl) (fun _ _ _ h => h) (Or.inr ⟨by rfl, rfl⟩) HSa.out ?_
          simp only [Act.put, List.setIfInBounds_toArray, List.set_cons_zero, List.set_cons_succ]
          refine takeH (i := 18) (d := some 79) (v := undef) rfl rfl (by kernel_rfl) (by kernel_rfl) (by kernel_rfl) (fun _ _ _ h => h) (Or.inr ⟨by rfl, rfl⟩) HSa.out ?_
          simp only [Act.put, List.setIfInBounds_toArray, List.set_cons_zero, List.set_cons_succ]
          refine takeH (i := 19) (d := some 80) (v := ?_) rfl rfl (by kernel_rfl) (by kernel_rfl) (by kernel_rfl) (fun _ _ _ h => h) (Or.inl ⟨by rfl, ?_⟩) HSa.out ?_
          rotate_left
          · intro wx hSx; clear hSx; first | (go_simp; done) | (go_simp; with_reducible rfl)
          simp only [Act.put, List.setIfInBounds_toArray, List.set_cons_zero, List.set_cons_succ]
          refine takeH (i := 20) (d := some 81) (v := ?_) rfl rfl (by kernel_rfl) (by kernel_rfl) (by kernel_rfl) (fun _ _ _ h => h) (Or.inl ⟨by rfl, ?_⟩) HSa.out ?_
          rotate_left
          · intro wx hSx; clear hSx; first | (go_simp; done) | (go_simp; with_reducible rfl)
          simp only [Act.put, List.setIfInBounds_toArray, List.set_cons_zero, List.set_cons_succ]
          refine wpAnyH_ready (rs := [21]) (by kernel_rfl) (by simp) ?_
          refine AllReadyH.cons rfl (fun K hK => ?_) AllReadyH.nil
          rw [if_pos (by rfl)]
          have r1 := HAa.out.grid.row cc.1 gg HGG.out |>.cell hxT
          have f1 := HAa.out.grid.row cc.1 gg HGG.out |>.frozen x
          have hpg : pb ≠ gg := by
            rintro rfl
            obtain ⟨c', hc', _⟩ := HAa.out.grid.row cc.1 _ HGG.out
            have := HSa.out.1
            unfold Blk at this
            rw [hc'] at this
            injection this with this
            injection this with _ ht
            exact absurd ht (by decide)
          have HS3 := Lib.hid (And.intro (HSa.out.1.far (p := ⟨gg, x, none⟩) hpg (.bool true)) (HAa.out.store (x := x) HGG.out true).grid.own)
          go_simp
          refine hK.out _ _ HS3.out (fun hS2 => ?_)
          clear hK K r1 f1 hS2
          try simp only [Act.put]
          refine wpAnyH_done (by kernel_rfl) ?_ _
          go_wp2_with fail
          go_roundw
          case rel =>
            refine ⟨x + 1, by omega, by go_num, Lib.hid ((HAa.out.store (x := x) HGG.out true).congr fun s' y _ _ => ?_), Lib.hid HS3.out.1, Lib.hid (HBa.out.setCell (HBO.out ▸ HAa.out.grid.ge _ _ HGG.out) _)⟩
            have h1 := HB1.out
            have h2 := HB2.out
            show (if s' = cc.1 ∧ y = x then true else _) = (_ || (decide (cc.1 = s') && decide (y < x + 1) && cc.2.getD y false))
            by_cases e1 : s' = cc.1
            · subst e1
              by_cases e2 : y = x
              · subst e2; rw [if_pos ⟨rfl, rfl⟩, h2]; simp at h1 ⊢; try simp [h1]
              · rw [if_neg (by simp [e2])]
                have : decide (y < x) = decide (y < x + 1) := by rw [decide_eq_decide]; omega
                rw [this]
            · rw [if_neg (by simp [e1]), decide_eq_false (Ne.symm e1)]; simp
          case measure => simp [intOf] <;> omega
        | false =>
          refine wp_region_held_drew (S := fun wx => Blk wx pb 66 (pc cc) ∧ wx.rowIs bo 62 m.nx.length (slot gs T)) (by kernel_rfl) (⟨PB.out, HA.out.grid.own⟩) (fun hS => ?_)
          refine takeH (i := 0) (d := some 61) (v := ?_) rfl rfl (by kernel_rfl) (by kernel_rfl) (by kernel_rfl) (fun _ _ _ h => h) (Or.inl ⟨by rfl, ?_⟩) hS ?_
          rotate_left
          · intro wx hSx; clear hSx; first | (go_simp; done) | (go_simp; with_reducible rfl)
          simp only [Act.put, List.setIfInBounds_toArray, List.set_cons_zero, List.set_cons_succ]
          refine takeH (i := 1) (d := some 62) (v := ?_) rfl rfl (by kernel_rfl) (by kernel_rfl) (by kernel_rfl) (fun _ _ _ h => h) (Or.inl ⟨by rfl, ?_⟩) hS ?_
          rotate_left
          · intro wx hSx; clear hSx; first | (go_simp; done) | (go_simp; with_reducible rfl)
          simp only [Act.put, List.setIfInBounds_toArray, List.set_cons_zero, List.set_cons_succ]
          refine takeH (i := 2) (d := some 63) (v := ?_) rfl rfl (by kernel_rfl) (by kernel_rfl) (by kernel_rfl) (fun _ _ _ h => h) (Or.inl ⟨by rfl, ?_⟩) hS ?_
          rotate_left
          · intro wx hSx; have e0 : wx.cell? ⟨pb, 0, none⟩ = some (.int .i64 (cc.1 : Nat)) := hSx.1.cell 0; have e1 := blk_bit hSx.1 hx4; rw [HB2.out] at e1; have e2 := hSx.2.cell hsn2; rw [hsl] at e2; clear hSx; first | (go_simp; done) | (go_simp; with_reducible rfl)
          simp only [Act.put, List.setIfInBounds_toArray, List.set_cons_zero, List.set_cons_succ]
          refine takeH (i := 3) (d := some 64) (v := ?_) rfl rfl (by kernel_rfl) (by kernel_rfl) (by kernel_rfl) (fun _ _ _ h => h) (Or.inl ⟨by rfl, ?_⟩) hS ?_
          rotate_left
          · intro wx hSx; clear hSx; first | (go_simp; done) | (go_simp; with_reducible rfl)
          simp only [Act.put, List.setIfInBounds_toArray, List.set_cons_zero, List.set_cons_succ]
          refine takeH (i := 4) (d := some 65) (v := ?_) rfl rfl (by kernel_rfl) (by kernel_rfl) (by kernel_rfl) (fun _ _ _ h => h) (Or.inl ⟨by rfl, ?_⟩) hS ?_
          rotate_left
          · intro wx hSx; have e0 : wx.cell? ⟨pb, 0, none⟩ = some (.int .i64 (cc.1 : Nat)) := hSx.1.cell 0; have e1 := blk_bit hSx.1 hx4; rw [HB2.out] at e1; have e2 := hSx.2.cell hsn2; rw [hsl] at e2; clear hSx; first | (go_simp; done) | (go_simp; with_reducible rfl)
          simp only [Act.put, List.setIfInBounds_toArray, List.set_cons_zero, List.set_cons_succ]
          refine takeH (i := 5) (d := some 66) (v := ?_) rfl rfl (by kernel_rfl) (by kernel_rfl) (by kernel_rfl) (fun _ _ _ h => h) (Or.inl ⟨by rfl, ?_⟩) hS ?_
          rotate_left
          · intro wx hSx; clear hSx; first | (go_simp; done) | (go_simp; with_reducible rfl)
          simp only [Act.put, List.setIfInBounds_toArray, List.set_cons_zero, List.set_cons_succ]
          refine takeH (i := 6) (d := some 67) (v := ?_) rfl rfl (by kernel_rfl) (by kernel_rfl) (by kernel_rfl) (fun _ _ _ h => h) (Or.inl ⟨by rfl, ?_⟩) hS ?_
          rotate_left
          · intro wx hSx; clear hSx; first | (go_simp; done) | (go_simp; with_reducible rfl)
          simp only [Act.put, List.setIfInBounds_toArray, List.set_cons_zero, List.set_cons_succ]
          refine takeH (i := 7) (d := some 68) (v := ?_) rfl rfl (by kernel_rfl) (by kernel_rfl) (by kernel_rfl) (fun _ _ _ h => h) (Or.inl ⟨by rfl, ?_⟩) hS ?_
          rotate_left
          · intro wx hSx; clear hSx; first | (go_simp; done) | (go_simp; with_reducible rfl)
          simp only [Act.put, List.setIfInBounds_toArray, List.set_cons_zero, List.set_cons_succ]
          refine takeH (i := 8) (d := some 69) (v := ?_) rfl rfl (by kernel_rfl) (by kernel_rfl) (by kernel_rfl) (fun _ _ _ h => h) (Or.inl ⟨by rfl, ?_⟩) hS ?_
          rotate_left
          · intro wx hSx; have e0 : wx.cell? ⟨pb, 0, none⟩ = some (.int .i64 (cc.1 : Nat)) := hSx.1.cell 0; have e1 := blk_bit hSx.1 hx4; rw [HB2.out] at e1; have e2 := hSx.2.cell hsn2; rw [hsl] at e2; clear hSx; first | (go_simp; done) | (go_simp; with_reducible rfl)
          simp only [Act.put, List.setIfInBounds_toArray, List.set_cons_zero, List.set_cons_succ]
          refine takeH (i := 9) (d := some 70) (v := ?_) rfl rfl (by kernel_rfl) (by kernel_rfl) (by kernel_rfl) (fun _ _ _ h => h) (Or.inl ⟨by rfl, ?_⟩) hS ?_
          rotate_left
          · intro wx hSx; clear hSx; first | (go_simp; done) | (go_simp; with_reducible rfl)
          simp only [Act.put, List.setIfInBounds_toArray, List.set_cons_zero, List.set_cons_succ]
          refine takeH (i := 10) (d := some 71) (v := ?_) rfl rfl (by kernel_rfl) (by kernel_rfl) (by kernel_rfl) (fun _ _ _ h => h) (Or.inl ⟨by rfl, ?_⟩) hS ?_
          rotate_left
          · intro wx hSx; have e0 : wx.cell? ⟨pb, 0, none⟩ = some (.int .i64 (cc.1 : Nat)) := hSx.1.cell 0; have e1 := blk_bit hSx.1 hx4; rw [HB2.out] at e1; have e2 := hSx.2.cell hsn2; rw [hsl] at e2; clear hSx; first | (go_simp; done) | (go_simp; with_reducible rfl)
          simp only [Act.put, List.setIfInBounds_toArray, List.set_cons_zero, List.set_cons_succ]
          refine takeH (i := 11) (d := some 72) (v := ?_) rfl rfl (by kernel_rfl) (by kernel_rfl) (by kernel_rfl) (fun _ _ _ h => h) (Or.inl ⟨by rfl, ?_⟩) hS ?_
          rotate_left
          · intro wx hSx; clear hSx; first | (go_simp; done) | (go_simp; with_reducible rfl)
          simp only [Act.put, List.setIfInBounds_toArray, List.set_cons_zero, List.set_cons_succ]
          refine takeH (i := 12) (d := some 73) (v := ?_) rfl rfl (by kernel_rfl) (by kernel_rfl) (by kernel_rfl) (fun _ _ _ h => h) (Or.inl ⟨by rfl, ?_⟩) hS ?_
          rotate_left
          · intro wx hSx; clear hSx; first | (go_simp; done) | (go_simp; with_reducible rfl)
          simp only [Act.put, List.setIfInBounds_toArray, List.set_cons_zero, List.set_cons_succ]
          generalize hwa : World.drew _ = wa at hS ⊢
          have HAa := Lib.hid (show ActW wa _ _ _ _ _ _ _ _ _ _ _ by rw [← hwa]; exact HA.out.drew)
          have HBa := Lib.hid (show Below w1.heap.size w1 wa by rw [← hwa]; exact HB.out.drew)
          clear hwa
          have HSa := Lib.hid hS
          clear hS
          refine wpAnyH_ready (rs := [13]) (by kernel_rfl) (by simp) ?_
          refine AllReadyH.cons rfl (fun K hK => ?_) AllReadyH.nil
          rw [if_pos (by rfl)]
          have r1 := HAa.out.grid.row cc.1 gg HGG.out |>.cell hxT
          rw [HB1.out] at r1
          go_simp
          refine hK.out _ _ HSa.out (fun hS2 => ?_)
          clear hK K r1 hS2
          try simp only [Act.put, List.setIfInBounds_toArray, List.set_cons_zero, List.set_cons_succ]
          refine takeH (i := 14) (d := some 75) (v := ?_) rfl rfl (by kernel_rfl) (by kernel_rfl) (by kernel_rfl) (fun _ _ _ h => h) (Or.inl ⟨by rfl, ?_⟩) HSa.out ?_
          rotate_left
          · intro wx hSx; clear hSx; first | (go_simp; done) | (go_simp; with_reducible rfl)
          simp only [Act.put, List.setIfInBounds_toArray, List.set_cons_zero, List.set_cons_succ]
          refine takeH (i := 15) (d := some 76) (v := ?_) rfl rfl (by kernel_rfl) (by kernel_rfl) (by kernel_rfl) (fun _ _ _ h => h) (Or.inl ⟨by rfl, ?_⟩) HSa.out ?_
          rotate_left
          · intro wx hSx; clear hSx; first | (go_simp; done) | (go_simp; with_reducible rfl)
          simp only [Act.put, List.setIfInBounds_toArray, List.set_cons_zero, List.set_cons_succ]
          refine takeH (i := 16) (d := some 77) (v := ?_) rfl rfl (by kernel_rfl) (by kernel_rfl) (by kernel_rfl) (fun _ _ _ h => h) (Or.inl ⟨by rfl, ?_⟩) HSa.out ?_
          rotate_left
          · intro wx hSx; clear hSx; first | (go_simp; done) | (go_simp; with_reducible rfl)
          simp only [Act.put, List.setIfInBounds_toArray, List.set_cons_zero, List.set_cons_succ]
          refine takeH (i := 17) (d := some 78) (v := ?_) rfl rfl (by kernel_rfl) (by kernel_rfl) (by kernel_rfl) (fun _ _ _ h => h) (Or.inl ⟨by rfl, ?_⟩) HSa.out ?_
          rotate_left
          · intro wx hSx; clear hSx; first | (go_simp; done) | (go_simp; with_reducible rfl)
          simp only [Act.put, List.setIfInBounds_toArray, List.set_cons_zero, List.set_cons_succ]
          refine takeH (i := 18) (d := some 79) (v := ?_) rfl rfl (by kernel_rfl) (by kernel_rfl) (by kernel_rfl) (fun _ _ _ h => h) (Or.inl ⟨by rfl, ?_⟩) HSa.out ?_
          rotate_left
          · intro wx hSx; have e0 : wx.cell? ⟨pb, 0, none⟩ = some (.int .i64 (cc.1 : Nat)) := hSx.1.cell 0; have e1 := blk_bit hSx.1 hx4; rw [HB2.out] at e1; have e2 := hSx.2.cell hsn2; rw [hsl] at e2; clear hSx; first | (go_simp; done) | (go_simp; with_reducible rfl)
          simp only [Act.put, List.setIfInBounds_toArray, List.set_cons_zero, List.set_cons_succ]
          refine takeH (i := 19) (d := some 80) (v := ?_) rfl rfl (by kernel_rfl) (by kernel_rfl) (by kernel_rfl) (fun _ _ _ h => h) (Or.inl ⟨by rfl, ?_⟩) HSa.out ?_
          rotate_left
          · intro wx hSx; clear hSx; first | (go_simp; done) | (go_simp; with_reducible rfl)
          simp only [Act.put, List.setIfInBounds_toArray, List.set_cons_zero, List.set_cons_succ]
          refine takeH (i := 20) (d := some 81) (v := ?_) rfl rfl (by kernel_rfl) (by kernel_rfl) (by kernel_rfl) (fun _ _ _ h => h) (Or.inl ⟨by rfl, ?_⟩) HSa.out ?_
          rotate_left
          · intro wx hSx; clear hSx; first | (go_simp; done) | (go_simp; with_reducible rfl)
          simp only [Act.put, List.setIfInBounds_toArray, List.set_cons_zero, List.set_cons_succ]
          refine wpAnyH_ready (rs := [21]) (by kernel_rfl) (by simp) ?_
          refine AllReadyH.cons rfl (fun K hK => ?_) AllReadyH.nil
          rw [if_pos (by rfl)]
          have r1 := HAa.out.grid.row cc.1 gg HGG.out |>.cell hxT
          have f1 := HAa.out.grid.row cc.1 gg HGG.out |>.frozen x
          have hpg : pb ≠ gg := by
            rintro rfl
            obtain ⟨c', hc', _⟩ := HAa.out.grid.row cc.1 _ HGG.out
            have := HSa.out.1
            unfold Blk at this
            rw [hc'] at this
            injection this with this
            injection this with _ ht
            exact absurd ht (by decide)
          have HS3 := Lib.hid (And.intro (HSa.out.1.far (p := ⟨gg, x, none⟩) hpg (.bool b2)) (HAa.out.store (x := x) HGG.out b2).grid.own)
          go_simp
          refine hK.out _ _ HS3.out (fun hS2 => ?_)
          clear hK K r1 f1 hS2
          try simp only [Act.put]
          refine wpAnyH_done (by kernel_rfl) ?_ _
          go_wp2_with fail
          go_roundw
          case rel =>
            refine ⟨x + 1, by omega, by go_num, Lib.hid ((HAa.out.store (x := x) HGG.out b2).congr fun s' y _ _ => ?_), Lib.hid HS3.out.1, Lib.hid (HBa.out.setCell (HBO.out ▸ HAa.out.grid.ge _ _ HGG.out) _)⟩
            have h1 := HB1.out
            have h2 := HB2.out
            show (if s' = cc.1 ∧ y = x then b2 else _) = (_ || (decide (cc.1 = s') && decide (y < x + 1) && cc.2.getD y false))
            by_cases e1 : s' = cc.1
            · subst e1
              by_cases e2 : y = x
              · subst e2; rw [if_pos ⟨rfl, rfl⟩, h2]; simp at h1 ⊢; try simp [h1]
              · rw [if_neg (by simp [e2])]
                have : decide (y < x) = decide (y < x + 1) := by rw [decide_eq_decide]; omega
                rw [this]
            · rw [if_neg (by simp [e1]), decide_eq_false (Ne.symm e1)]; simp
          case measure => simp [intOf] <;> omega
end Go.Proofs.Ytpcoddbkcelaoaa
