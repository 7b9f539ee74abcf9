/- The canonical form of a data word: the code's. -/
import Derived.Test.YtaoebjabdejpoaaNmm
import Derived.Test.YtaoebjabdejpoaaSma
namespace Go.Proofs.Ytaoebjabdejpoaa
open Go.RowKit

/-- the cells of a symbol with a value -/
abbrev elD (p : Int × Int) : List Value := [.int .i64 p.1, .int .i64 p.2]
theorem elD_len (p : Int × Int) : (elD p).length = 2 := rfl
theorem elD_one {p : Int × Int} : ∀ u ∈ elD p, u.oneCell' = true := by intro u hu; simp [elD] at hu; rcases hu with rfl | rfl <;> rfl
theorem infoD : (Try.prog.info? 63).map (fun i => (i.zero, i.size, i.bytes)) = some (some (.agg #[.int .i64 0, .int .i64 0]), 2, 16) := by kernel_rfl
theorem rd2_of {w : World} {A : Option Addr} {q : Rg.Dw} (h : RdL elD 2 w A q) : Rd2 w A q := by
  refine ⟨h.1, fun hp => ?_⟩
  obtain ⟨ad, e, hc⟩ := h.2 hp
  refine ⟨ad, e, fun i hi => ?_⟩
  have hx : q[i]? = some (q.getD i (0, 0)) := by rw [List.getD_eq_getElem?_getD, List.getElem?_eq_getElem hi]; rfl
  exact ⟨hc i _ hx 0 _ rfl, hc i _ hx 1 _ rfl⟩
theorem own_rd2 {w : World} {base e : Nat} {A : Option Addr} {n c : Nat} {q : Rg.Dw} (h : OwnL elD 2 w base e (.slice A n c) q) (hn : q.length ≤ 1152921504606846976) : n = q.length ∧ Rd2 w A q :=
  ⟨(h.rd elD_len hn).1, rd2_of (h.rd elD_len hn).2⟩
/-- the values of a data word are ints of the machine -/
def WfW (ws : Rg.Dw) : Prop := ∀ j, j < ws.length → Wfi (ws.getD j (0, 0)).2
set_option linter.unusedSimpArgs false
set_option maxRecDepth 100000 in
set_option maxHeartbeats 4000000 in
theorem canon_p (ws : Rg.Dw) (A : Option Addr) (c : Nat) (w : World) (hR : Rd2 w A ws) (hwf : WfW ws) (hlen : ws.length ≤ 2000) :
    Calls Try.prog 19 #[.slice A ws.length c] w fun e w' => (∃ v, e = .returned v ∧ OwnL elD 2 w' w.heap.size 63 v (Rg.canon ws ws.length)) ∧ Below w.heap.size w w' := by
  have HR := Lib.hid hR
  have mw := hR.1
  have HW := Lib.hid hwf
  have hmm := @run_makeMap Try.prog
  clear hR hwf
  go_enter Try.func19, Try.ntmps19
  go_upto_region 2 with fail
  clear hmm
  generalize hwb : World.alloc _ _ = w1
  have HM0 : Hid (NumM w1 w.heap.size (Rg.vals ws 0)) := Lib.hid (by rw [← hwb]; exact MapK.made w)
  have HB0 : Hid (Below w.heap.size w w1) := Lib.hid (by rw [← hwb]; exact (Below.refl _ _).alloc (Nat.le_refl _) _)
  generalize hbm : w.heap.size = bm at *
  have hb0 : w.heap.size ≤ bm := by omega
  clear hwb
  go_upto_region 4 with fail
  go_loopw [4, 12] (fun ov jv wr => ∃ j : Nat, j ≤ ws.length ∧ jv = .int .i64 j ∧ Hid (NumM wr bm (Rg.vals ws j)) ∧ Hid (OwnL elD 2 wr bm 63 ov (Rg.canon ws j)) ∧ Hid (Below bm w wr)) (fun _ jv _ => ws.length - (intOf jv).toNat)
  case atStart => exact ⟨0, Nat.zero_le _, rfl, HM0, Lib.hid (World.ownsRow_nil _ _ _ _), HB0⟩
  case round =>
    clear HM0 HB0
    obtain ⟨j, hj, rfl, HM, HO, HB⟩ := hrel
    clear w1
    rename World => wr
    obtain ⟨V, vc, hV⟩ := own_slice HO.out
    rw [Rg.canon_len] at hV
    subst hV
    by_cases hjl : j < ws.length
    rotate_left
    · obtain rfl : j = ws.length := by omega
      go_wp2
      go_ret
      exact ⟨⟨_, rfl, by rw [hbm]; exact HO.out⟩, by rw [hbm]; exact HB.out⟩
    have hji : (j : Int) < (ws.length : Int) := by omega
    obtain ⟨ad, x, v, rfl, hxv, ca, cb⟩ := HR.out.at_ hjl
    have hv : (ws.getD j (0, 0)).2 = v := by rw [hxv]
    have hcc := cells2' (keep_cell (hbm ▸ HB.out) ca) (keep_cell (hbm ▸ HB.out) cb)
    have hwv : Wfi v := by have := HW.out j hjl; rw [hxv] at this; exact this
    go_upto_region 6 with (refine wpList_load_any rfl 63 _ rfl (ad.add (j * 2)) rfl [.int .i64 x, .int .i64 v] _ hcc Try.underlying63 rfl (by kernel_rfl) ?_)
    generalize hwb : World.alloc _ _ = wy
    have KD : Hid (Blk wy wr.heap.size 63 #[.int .i64 x, .int .i64 v]) := Lib.hid (by rw [← hwb]; exact Blk.new _ _ _)
    have hal : Below wr.heap.size wr wy := by rw [← hwb]; exact (Below.refl _ _).alloc (Nat.le_refl _) _
    replace HM := Lib.hid (HM.out.keep hal)
    replace HO := Lib.hid (own_keep HO.out hal)
    replace HB := Lib.hid (HB.out.trans (hal.mono (Nat.le_trans (hbm ▸ HB.out.size) (Nat.le_refl _))))
    generalize wr.heap.size = gk at *
    clear hwb hal hcc ca cb wr
    have k0 := KD.out.cell 0
    have k1 := KD.out.cell 1
    have hz : (zeroValue 3).run Try.prog wy = .ok (.int .i64 0) wy := by rfl
    obtain ⟨v0, hlook, hv0⟩ := HM.out.at_ hwv int_kind hz
    have hvl := Rg.vals_len ws j
    have hsz : bm ≤ wy.heap.size := by have := HM.out.lt; omega
    have hon : (Rg.canon ws j).length ≤ 1099511627776 := by rw [Rg.canon_len]; omega
    clear hz
    by_cases hm : v ∈ Rg.vals ws j
    · have hold := Rg.num_old (w := ws) (j := j) (by rw [hv]; exact hm)
      have hvs := Rg.vals_old (w := ws) (j := j) (by rw [hv]; exact hm)
      rw [hv] at hold
      have HCN := Lib.hid (show Rg.canon ws (j + 1) = Rg.canon ws j ++ [(x, ((Rg.idx (Rg.vals ws j) v + 1 : Nat) : Int))] by rw [Rg.canon_succ]; unfold Rg.canA; rw [hold, hxv])
      have HVS := Lib.hid hvs
      obtain rfl := hv0 hm
      rw [decide_eq_true hm] at hlook
      clear hold hvs hv0 hm hv hxv hwv hvl
      generalize hix : Rg.idx (Rg.vals ws j) v + 1 = ix at *
      clear hix
      go_upto_region 10 with fail
      clear hlook k1
      go_upto_region 11 with (first | (at_builtin; refine appL elD_len (by decide) rfl (.tmp 32) (.tmp 37) 26 63 _ _ rfl Try.underlying26 infoD rfl (by decide) (y := (x, (ix : Int))) rfl rfl rfl rfl HO.out elD_one hon hsz ?_; intro v7 w7 ho7 hg7 hl7 hbb7 hbs7))
      have hk1 : Kt (isT 63) wy w7 := (Kt.below ((Below.refl _ _).alloc (Nat.le_refl _) _)).trans (Kt.grown hg7 (own_bad (HO.out.alloc _)))
      replace HM : Hid (NumM w7 bm (Rg.vals ws (j + 1))) := Lib.hid (by rw [HVS.out]; exact HM.out.kt_ hk1 map_notT)
      replace HB := Lib.hid (hbb7 bm w (Nat.le_refl _) HB.out)
      replace HO : Hid (OwnL elD 2 w7 bm 63 v7 (Rg.canon ws (j + 1))) := Lib.hid (by rw [HCN.out]; exact ho7)
      clear hk1 ho7 hg7 hl7 hbb7 hbs7 k0
      go_wp2_with fail
      go_roundw
      case rel => exact ⟨j + 1, by omega, by go_num, HM, HO, HB⟩
      case measure => simp [intOf] <;> omega
    have hnew := Rg.num_new (w := ws) (j := j) (by rw [hv]; exact hm)
    have hvs := Rg.vals_new (w := ws) (j := j) (by rw [hv]; exact hm)
    rw [hv] at hvs
    have HCN := Lib.hid (show Rg.canon ws (j + 1) = Rg.canon ws j ++ [(x, (((Rg.vals ws j).length + 1 : Nat) : Int))] by rw [Rg.canon_succ]; unfold Rg.canA; rw [hnew, hxv])
    have HVS := Lib.hid hvs
    have hlenm := HM.out.len int_kind 3
    obtain ⟨wm, hput, hseen, hgr⟩ := HM.out.put hwv int_kind hm (by omega) (by omega)
    rw [← HVS.out] at hseen
    have hvl2 : (Rg.vals ws j).length ≤ 100000 := by omega
    rw [decide_eq_false hm] at hlook
    clear hnew hvs hv0 hm hv hxv hwv
    obtain ⟨ln, hln⟩ : ∃ ln, ln = (Rg.vals ws j).length := ⟨_, rfl⟩
    rw [← hln] at hlenm hput HCN hvl2
    replace hput : (Instr.mapUpdate 77 (.map (some bm)) (.int .i64 v) (.int .i64 ((ln : Int) + 1))).run Try.prog wy = .ok () wm := by rw [← hput]; rfl
    have HGR := Lib.hid hgr
    have HSEEN := Lib.hid hseen
    clear hln hgr hseen hvl
    go_upto_region 9 with fail
    clear hlook hlenm
    go_upto_region 10 with fail
    clear hput k1
    have hk1 : Kt isM wy wm := Kt.grown HGR.out HM.out.isM_
    have K0 := blk_kt KD.out hk1 isT_notM
    replace k0 := K0.cell 0
    replace HO := Lib.hid (own_kt HO.out hk1 isT_notM)
    replace HB := Lib.hid (below_grown HB.out HGR.out (Nat.le_refl _) hsz)
    replace HM := HSEEN
    replace hsz : bm ≤ wm.heap.size := Nat.le_trans hsz HGR.out.size
    clear HGR HSEEN hk1 K0 KD
    go_upto_region 11 with (first | (at_builtin; refine appL elD_len (by decide) rfl (.tmp 32) (.tmp 37) 26 63 _ _ rfl Try.underlying26 infoD rfl (by decide) (y := (x, ((ln + 1 : Nat) : Int))) rfl rfl rfl rfl HO.out elD_one hon hsz ?_; intro v7 w7 ho7 hg7 hl7 hbb7 hbs7))
    have hk1 : Kt (isT 63) wm w7 := (Kt.below ((Below.refl _ _).alloc (Nat.le_refl _) _)).trans (Kt.grown hg7 (own_bad (HO.out.alloc _)))
    replace HM : Hid (NumM w7 bm (Rg.vals ws (j + 1))) := Lib.hid (HM.out.kt_ hk1 map_notT)
    replace HB := Lib.hid (hbb7 bm w (Nat.le_refl _) HB.out)
    replace HO : Hid (OwnL elD 2 w7 bm 63 v7 (Rg.canon ws (j + 1))) := Lib.hid (by rw [HCN.out]; exact ho7)
    clear hk1 ho7 hg7 hl7 hbb7 hbs7 k0
    go_wp2_with fail
    go_roundw
    case rel => exact ⟨j + 1, by omega, by go_num, HM, HO, HB⟩
    case measure => simp [intOf] <;> omega
end Go.Proofs.Ytaoebjabdejpoaa
