/- The code's machine without time. -/
import Derived.Test.YtpcoddbkcelaoaaUntR
import Derived.Test.YtpcoddbkcelaoaaHel
import Derived.Test.YtpcoddbkcelaoaaRVal
import Derived.Test.YtpcoddbkcelaoaaAct
namespace Go.Proofs.Ytpcoddbkcelaoaa
open Go.RowKit

set_option linter.unusedSimpArgs false
theorem run_make_cap (n : Nat) (h : n ≤ 1000) (w : World) : (Instr.makeSlice 59 (.int .i64 0) (.int .i64 (n : Int))).run Try.prog w = .ok (.slice (some ⟨w.heap.size, 0, none⟩) 0 n) (w.alloc (.cells (madeCells #[.int .i64 0] n) 3)) := by
  obtain ⟨i, hi, hzz⟩ := Option.map_eq_some_iff.1 infoI
  simp only [Prod.mk.injEq] at hzz
  obtain ⟨hz, hs, hb⟩ := hzz
  have hr := run_make (P := Try.prog) w 59 3 i _ Try.underlying59 hi hz .i64 .i64 0 n (by omega) (by omega) (by rw [hb]; omega) (by omega)
  simp only [Int.toNat_natCast, Int.toNat_zero, hs, Nat.mul_one, Value.cells] at hr
  exact hr
theorem rows_made (w : World) (n base : Nat) (h : n ≤ 1000) (hb : base ≤ w.heap.size) : (w.alloc (.cells (madeCells #[.int .i64 0] n) 3)).ownsRow base 3 1 (.slice (some ⟨w.heap.size, 0, none⟩) 0 n) 0 [] :=
  World.ownsRow_made _ _ _ hb (by unfold maxLen; omega) (by rw [size_madeCells]; omega)
/-- what changes in a round of the search: the queue, the map -/
def qm (o : Obj) : Prop := isT 66 o ∨ isM o
theorem qm_ne {t : TypeId} (h : t ≠ 66) : ∀ cs p, ¬ qm (.cells cs t p) := fun cs p hh => hh.elim (isT_ne h cs p) (isT_notM cs p)
theorem map_notT {t : TypeId} : ∀ es cl, ¬ isT t (.map es cl) := by
  rintro es cl ⟨cs, p, e⟩
  cases e
/-- all that is kept at the end of a round -/
structure B32 (w1 w : World) (bm N T p6 nn br : Nat) (q : List Tm.Cfg) (vq y2 y3 vns vos vn vo : Value) (ns os : List Int) (nx out : List (List Int)) : Prop where
  n : SeenN w bm q.length N T q
  o : OwnL pcl 5 w w1.heap.size 66 vq q
  u : UTab w w1.heap.size vn vo nx out
  y : Blk w p6 46 #[.int .i64 (nn : Int), .int .i64 0, y2, y3]
  p : Pr2 w br vns vos ns os
  b : Below w1.heap.size w1 w
section
variable {w1 w w' : World} {bm N T p6 nn br : Nat} {q : List Tm.Cfg} {vq y2 y3 vns vos vn vo v' : Value} {ns os : List Int} {nx out nx' out' : List (List Int)}
theorem B32.keep (h : B32 w1 w bm N T p6 nn br q vq y2 y3 vns vos vn vo ns os nx out) (hb : Below w.heap.size w w') : B32 w1 w' bm N T p6 nn br q vq y2 y3 vns vos vn vo ns os nx out :=
  ⟨h.n.keep hb, own_keep h.o hb, h.u.keep hb, h.y.keep hb, h.p.keep hb, below_seq h.b hb⟩
theorem B32.appN (h : B32 w1 w bm N T p6 nn br q vq y2 y3 vns vos vn vo ns os nx out) (ho : OwnM w' w1.heap.size 59 3 v' nx') (hg : w.grownBy w' vn.ownBlock) (hl : v'.ownBlock = vn.ownBlock ∨ v'.ownBlock = some w.heap.size) (hb : Below w1.heap.size w w') (hbad : ∀ (g : Nat) (o : Obj), vn.ownBlock = some g → w.heap[g]? = some o → isT 59 o) :
    B32 w1 w' bm N T p6 nn br q vq y2 y3 vns vos v' vo ns os nx' out := by
  have hk : Kt (isT 59) w w' := Kt.grown hg hbad
  exact ⟨seen_kt h.n hk map_notT, own_kt h.o hk (isT_ne (by decide)), h.u.pushN ho hg hl, blk_kt h.y hk (isT_ne (by decide)), h.p.kt hk (isT_ne (by decide)), h.b.trans hb⟩
theorem B32.appO (h : B32 w1 w bm N T p6 nn br q vq y2 y3 vns vos vn vo ns os nx out) (ho : OwnM w' w1.heap.size 59 3 v' out') (hg : w.grownBy w' vo.ownBlock) (hl : v'.ownBlock = vo.ownBlock ∨ v'.ownBlock = some w.heap.size) (hb : Below w1.heap.size w w') (hbad : ∀ (g : Nat) (o : Obj), vo.ownBlock = some g → w.heap[g]? = some o → isT 59 o) :
    B32 w1 w' bm N T p6 nn br q vq y2 y3 vns vos vn v' ns os nx out' := by
  have hk : Kt (isT 59) w w' := Kt.grown hg hbad
  exact ⟨seen_kt h.n hk map_notT, own_kt h.o hk (isT_ne (by decide)), h.u.pushO ho hg hl, blk_kt h.y hk (isT_ne (by decide)), h.p.kt hk (isT_ne (by decide)), h.b.trans hb⟩
theorem B32.set2 (h : B32 w1 w bm N T p6 nn br q vq y2 y3 vns vos vn vo ns os nx out) (hp : w1.heap.size ≤ p6) (v : Value) : B32 w1 (w.setCell ⟨p6, 2, none⟩ v) bm N T p6 nn br q vq v y3 vns vos vn vo ns os nx out := by
  have hk : Kt (isT 46) w (w.setCell ⟨p6, 2, none⟩ v) := Kt.set (p := ⟨p6, 2, none⟩) h.y.isT_
  exact ⟨seen_kt h.n hk map_notT, own_kt h.o hk (isT_ne (by decide)), h.u.kt hk (isT_ne (by decide)) (isT_ne (by decide)), h.y.set_ _ _, h.p.kt hk (isT_ne (by decide)), h.b.setCell hp _⟩
theorem B32.set3 (h : B32 w1 w bm N T p6 nn br q vq y2 y3 vns vos vn vo ns os nx out) (hp : w1.heap.size ≤ p6) (v : Value) : B32 w1 (w.setCell ⟨p6, 3, none⟩ v) bm N T p6 nn br q vq y2 v vns vos vn vo ns os nx out := by
  have hk : Kt (isT 46) w (w.setCell ⟨p6, 3, none⟩ v) := Kt.set (p := ⟨p6, 3, none⟩) h.y.isT_
  exact ⟨seen_kt h.n hk map_notT, own_kt h.o hk (isT_ne (by decide)), h.u.kt hk (isT_ne (by decide)) (isT_ne (by decide)), h.y.set_ _ _, h.p.kt hk (isT_ne (by decide)), h.b.setCell hp _⟩
end
set_option maxRecDepth 100000 in
set_option maxHeartbeats 16000000 in
theorem untimed_p (m : Tm.M) (A B C : Option Addr) (c d e : Nat) (w : World) (hR : RdT w A B C m) :
    Calls Try.prog 19 #[.agg #[.int .i64 m.I, .int .i64 m.T, .int .i64 m.S, .slice A m.nx.length c, .slice B m.out.length d, .slice C m.set.length e]] w (UntP (untE m) w) := by
  have HR := Lib.hid hR
  clear hR
  go_enter Try.func19, Try.ntmps19
  go_upto_region 1 with fail
  generalize hwb : World.alloc _ _ = w0
  have BX : Hid (Blk w0 w.heap.size 25 (tc m A c B d C e)) := Lib.hid (by rw [← hwb]; exact (Blk.new _ _ _).alloc _)
  have Y2 : Hid (Blk w0 (w.heap.size + 1) 46 #[.int .i64 0, .int .i64 0, .slice none 0 0, .slice none 0 0]) := Lib.hid (by rw [← hwb]; have := Blk.new (w.alloc (.cells (tc m A c B d C e) 25)) 46 #[.int .i64 0, .int .i64 0, .slice none 0 0, .slice none 0 0]; rw [asize] at this; exact this)
  have HBL : Hid (Below w.heap.size w w0) := Lib.hid (by rw [← hwb]; exact ((Below.refl _ _).alloc (Nat.le_refl _) _).alloc (by rw [asize]; omega) _)
  clear hwb
  go_wp2_with (first | (refine wpList_load_row rfl 25 _ rfl w.heap.size rfl 25 (tc m A c B d C e) (0, 0) _ BX.out Try.underlying25 rfl (by kernel_rfl) ?_))
  refine (tvalid_p m A B C c d e w0 (HR.out.keep HBL.out)).mono ?_
  rintro r w1 ⟨rfl, hb⟩
  replace BX := Lib.hid (BX.out.keep hb)
  replace Y2 := Lib.hid (Y2.out.keep hb)
  replace HBL := Lib.hid (below_seq HBL.out hb)
  have hy1 : w.heap.size ≤ w.heap.size + 1 := by omega
  have HY1 : Hid (w.heap.size + 1 < w1.heap.size) := Lib.hid Y2.out.lt
  clear hb w0
  by_cases hv : Tm.validE m = 0
  rotate_left
  · have HV := Lib.hid (untE_bad hv)
    obtain ⟨q, hq⟩ : ∃ q, q = Tm.validE m := ⟨_, rfl⟩
    rw [← hq] at hv HV ⊢
    have hbz : (q != 0) = true := by rw [bne_iff_ne]; exact hv
    clear hv hq
    go_wp2_with (first | (refine wpList_store_row rfl 46 _ _ rfl (w.heap.size + 1) #[.int .i64 0, .int .i64 0, .slice none 0 0, .slice none 0 0] rfl rfl 46 _ Y2.out (by kernel_rfl) rfl (by simp [Value.oneCell']) ?_))
    refine ret_c2 (set_row_blk Y2.out) rfl rfl Try.underlying46 rfl (by kernel_rfl) rfl ?_
    rw [HV.out]
    exact UntP_err rfl (below_row HBL.out hy1 _)
  rw [hv]
  obtain ⟨k, T, S, hok⟩ := Tm.ok_of hv
  have HM := Lib.hid hok
  have h4 := hok.t4
  have h64 := hok.k64
  have h128 := hok.n128
  clear hv hok
  have HT := Lib.hid (HR.out.keep HBL.out)
  clear HR
  have BT := Lib.hid (boxT BX.out)
  have c0 := BT.out.c0
  rw [HM.out.I] at c0
  have c1 := BT.out.c1
  rw [HM.out.T'] at c1
  have c2 := BT.out.c2
  rw [HM.out.S'] at c2
  have HC4 := Lib.hid BT.out.c4
  have HC0 : Hid (∀ wz, Below w1.heap.size w1 wz → Blk wz w.heap.size 25 (tc m A c B d C e)) := Lib.hid (fun wz hz => BX.out.keep hz)
  have HY0 : Hid (∀ wz, Below w1.heap.size w1 wz → Blk wz (w.heap.size + 1) 46 #[.int .i64 0, .int .i64 0, .slice none 0 0, .slice none 0 0]) := Lib.hid (fun wz hz => Y2.out.keep hz)
  clear BT Y2
  go_upto_region 6 with fail
  clear c0 c1
  obtain ⟨nn, hnn⟩ : ∃ nn : Nat, nn = k + T := ⟨_, rfl⟩
  have hni : (k : Int) + (T : Int) = (nn : Int) := by omega
  obtain ⟨sc, hsc⟩ : ∃ sc : Int, sc = 1 + (T : Int) * 1001 := ⟨_, rfl⟩
  rw [hni, ← hsc]
  have HNN := Lib.hid hnn
  have HNI := Lib.hid hni
  have HSC := Lib.hid hsc
  have hn64 : nn ≤ 64 := by omega
  clear hnn hni hsc
  have KZ := Blk.new w1 66 #[.int .i64 0, .bool false, .bool false, .bool false, .bool false]
  go_upto_region 7 with (first | (refine wpList_store_row rfl 66 _ _ rfl w1.heap.size #[.int .i64 (S : Nat), .bool false, .bool false, .bool false, .bool false] rfl rfl 66 _ KZ (by kernel_rfl) rfl (by simp [Value.oneCell']) ?_))
  generalize hwb : World.setRow _ _ _ = wq
  have P7 : Hid (Blk wq w1.heap.size 66 (pc (Tm.c0 S T))) := Lib.hid (by rw [← hwb, pc_c0]; exact set_row_blk KZ)
  have HBq : Hid (Below w1.heap.size w1 wq) := Lib.hid (by rw [← hwb]; exact below_row ((Below.refl _ _).alloc (Nat.le_refl _) _) (Nat.le_refl _) _)
  have hsq : w1.heap.size ≤ wq.heap.size := HBq.out.size
  clear hwb KZ c2
  generalize hp7 : w1.heap.size = p7 at P7 ⊢
  clear hp7
  obtain ⟨wm, hput, hseen, hgr⟩ := (SeenN.made wq m.nx.length T).put (c := Tm.c0 S T) (Tm.c0_ok HM.out) h128 h4 (by unfold maxLen; omega) (by simp) (by simp)
  replace hput : (Instr.mapUpdate 94 (.map (some wq.heap.size)) (.agg (pc (Tm.c0 S T))) (.int .i64 0)).run Try.prog (wq.alloc (.map #[] 0)) = .ok () wm := hput
  have P7m := P7.out.alloc (.map #[] 0)
  have HGR := Lib.hid hgr
  have HSEEN := Lib.hid hseen
  clear hgr hseen
  have hmm := @run_makeMap Try.prog
  go_upto_region 8 with (first | (refine wpList_load_row rfl 66 _ rfl p7 rfl 66 (pc (Tm.c0 S T)) (0, 0) _ P7m Try.underlying66 rfl (by kernel_rfl) ?_))
  clear hput P7m hmm
  have HBm := Lib.hid (below_grown (HBq.out.alloc HBq.out.size (.map #[] 0)) HGR.out HBq.out.size (Nat.le_trans HBq.out.size (by simp)))
  have hbm : w1.heap.size ≤ wq.heap.size := hsq
  have P7n : Hid (Blk wm p7 66 (pc (Tm.c0 S T))) := Lib.hid ((P7.out.alloc (.map #[] 0)).grown HGR.out (fun e => by have := P7.out.lt; injection e with e; omega))
  have HSM : Hid (w1.heap.size ≤ wm.heap.size) := Lib.hid HBm.out.size
  generalize wq.heap.size = bm at *
  clear HGR HBq P7 hsq wq
  have P7e := P7n.out
  rw [pc_c0] at P7e
  go_upto_region 9 with (first | (refine wpList_load_row rfl 66 _ rfl p7 rfl 66 (#[.int .i64 (S : Nat), .bool false, .bool false, .bool false, .bool false]) (0, 0) _ P7e Try.underlying66 rfl (by kernel_rfl) ?_))
  clear P7e
  generalize hwb : World.alloc _ _ = wn
  have hal : Below wm.heap.size wm wn := by rw [← hwb]; exact (Below.refl _ _).alloc (Nat.le_refl _) _
  have HO0 : Hid (OwnL pcl 5 wn w1.heap.size 66 (.slice (some ⟨wm.heap.size, 0, none⟩) 1 1) [Tm.c0 S T]) := Lib.hid (OwnL.one HSM.out (by rw [← hwb, pc_c0]; exact Blk.new _ _ _))
  have HN0 : Hid (SeenN wn bm 1 m.nx.length T [Tm.c0 S T]) := Lib.hid (HSEEN.out.keep hal)
  have HB0 := Lib.hid (below_seq HBm.out hal)
  clear hwb hal HBm HSEEN P7n HSM
  generalize wm.heap.size = q0 at *
  clear wm
  have KZ := Blk.new wn 46 #[.int .i64 0, .int .i64 0, .slice none 0 0, .slice none 0 0]
  go_upto_region 10 with (first | (refine wpList_store_row rfl 46 _ _ rfl wn.heap.size #[.int .i64 (nn : Int), .int .i64 0, .slice none 0 0, .slice none 0 0] rfl rfl 46 _ KZ (by kernel_rfl) rfl (by simp [Value.oneCell']) ?_))
  generalize hwb : World.setRow _ _ _ = wq
  have hal : Below wn.heap.size wn wq := by rw [← hwb]; exact below_row ((Below.refl _ _).alloc (Nat.le_refl _) _) (Nat.le_refl _) _
  have Y6 : Hid (Blk wq wn.heap.size 46 #[.int .i64 (nn : Int), .int .i64 0, .slice none 0 0, .slice none 0 0]) := Lib.hid (by rw [← hwb]; exact set_row_blk KZ)
  have hp6 : w1.heap.size ≤ wn.heap.size := HB0.out.size
  replace HO0 := Lib.hid (own_keep HO0.out hal)
  replace HN0 := Lib.hid (HN0.out.keep hal)
  replace HB0 := Lib.hid (below_seq HB0.out hal)
  clear hwb hal KZ
  generalize wn.heap.size = p6 at *
  clear wn
  have HS0 := Lib.hid (Tm.USea.start HM.out)
  have HT0 : Hid (UTab wq w1.heap.size (.slice none 0 0) (.slice none 0 0) [] []) := Lib.hid (UTab.nil _ _)
  go_upto_region 11 with fail
  go_loopw [9, 11] (fun v a wr => ∃ (j : Nat) (q : List Tm.Cfg) (vn vo : Value) (nx out : List (List Int)), a = .int .i64 j ∧ Hid (SeenN wr bm q.length m.nx.length T q) ∧ Hid (OwnL pcl 5 wr w1.heap.size 66 v q) ∧ Hid (UTab wr w1.heap.size vn vo nx out) ∧ Hid (Blk wr p6 46 #[.int .i64 (nn : Int), .int .i64 0, vn, vo]) ∧ Hid (Tm.USea m k T S (Tm.unt m k T S) j q nx out) ∧ Hid (Below w1.heap.size w1 wr)) (fun _ a _ => 3000 - (intOf a).toNat)
  case atStart => exact ⟨0, [Tm.c0 S T], _, _, [], [], rfl, HN0, HO0, HT0, Y6, HS0, HB0⟩
  case round =>
    clear HN0 HO0 HT0 Y6 HS0 HB0
    obtain ⟨j, q, vn, vo, nx, out, rfl, HN, HO, HU, Y6, HS, HB⟩ := hrel
    obtain ⟨E, cE, rfl⟩ := own_slice HO.out
    have hql : q.length ≤ 128 := HS.out.q128
    obtain ⟨A1, d1, rfl⟩ := HU.out.n.slice
    obtain ⟨A2, d2, rfl⟩ := HU.out.o.slice
    by_cases hj : j < q.length
    rotate_left
    · have hj' : ¬ (j : Int) < (q.length : Int) := by omega
      have HF : Hid (untE m = (0, (nn : Int), nx, out)) := Lib.hid (by rw [← HNI.out]; exact untE_ok HM.out (HS.out.fin hj))
      have HOK := Lib.hid (HS.out.valid HM.out hj)
      have HVZ : Hid (Mea.validE (nn : Int) 0 nx out = 0) := Lib.hid (by have := HOK.out.valid; rw [HNN.out]; exact this)
      have hn128 := HOK.out.n128
      have ho128 : out.length ≤ 128 := by have := HOK.out.o; omega
      go_upto_region 33 with fail
      clear hj'
      refine wp_region_held_drew (S := fun wx => Blk wx p6 46 #[.int .i64 (nn : Int), .int .i64 0, .slice A1 nx.length d1, .slice A2 out.length d2]) (by kernel_rfl) (Y6.out) (fun hS => ?_)
      refine takeH (i := 0) (d := some 133) (v := .agg #[.int .i64 (nn : Int), .int .i64 0, .slice A1 nx.length d1, .slice A2 out.length d2]) rfl rfl (by kernel_rfl) (by kernel_rfl) (by kernel_rfl) (fun _ _ _ h => h) (yieldsIf_load_any (by rfl) 46 _ rfl ⟨p6, 0, none⟩ rfl [.int .i64 (nn : Int), .int .i64 0, .slice A1 nx.length d1, .slice A2 out.length d2] _ (fun wx hSx => (Blk.part hSx 0 _ rfl)) Try.underlying46 rfl (by kernel_rfl)) hS ?_
      simp only [Act.put, List.setIfInBounds_toArray, List.set_cons_zero, List.set_cons_succ]
      refine takeH (i := 1) (d := some 134) (v := .agg #[.int .i64 (nn : Int), .int .i64 0, .slice A1 nx.length d1, .slice A2 out.length d2]) rfl rfl (by kernel_rfl) (by kernel_rfl) (by kernel_rfl) (fun _ _ _ h => h) (yieldsIf_load_any (by rfl) 46 _ rfl ⟨p6, 0, none⟩ rfl [.int .i64 (nn : Int), .int .i64 0, .slice A1 nx.length d1, .slice A2 out.length d2] _ (fun wx hSx => (Blk.part hSx 0 _ rfl)) Try.underlying46 rfl (by kernel_rfl)) hS ?_
      simp only [Act.put, List.setIfInBounds_toArray, List.set_cons_zero, List.set_cons_succ]
      generalize hwa : World.drew _ = wa at hS ⊢
      have HUa := Lib.hid (show UTab wa w1.heap.size _ _ nx out by rw [← hwa]; exact HU.out.keep ((Below.refl _ _).drew))
      have HBa := Lib.hid (show Below w1.heap.size w1 wa by rw [← hwa]; exact HB.out.drew)
      have Y2a := Lib.hid (HY0.out wa HBa.out)
      clear hwa
      have HSa := Lib.hid hS
      clear hS
      refine wpAnyH_ready (rs := [2]) (by kernel_rfl) (by simp) ?_
      refine AllReadyH.cons rfl (fun K hK => ?_) AllReadyH.nil
      rw [if_pos (by rfl)]
      try go_simp
      refine (mvalid (nn : Int) 0 A1 A2 d1 d2 nx out wa (HUa.out.n.rd (by omega) (short_rows HOK.out.rowN HOK.out.k64)) (HUa.out.o.rd (by omega) (short_rows (n := k + T) (fun s hs => HOK.out.rowO s (by have := HOK.out.o; omega)) HOK.out.k64))).mono ?_
      rintro r wv ⟨rfl, hb⟩
      rw [HVZ.out]
      refine hK.out _ _ (HSa.out.keep hb) (fun hS2 => ?_)
      clear hK K
      try simp only [Act.put, List.setIfInBounds_toArray, List.set_cons_zero, List.set_cons_succ]
      replace HUa := Lib.hid (HUa.out.keep hb)
      replace Y2a := Lib.hid (Y2a.out.keep hb)
      replace HBa := Lib.hid (below_seq HBa.out hb)
      replace HSa := Lib.hid hS2
      clear hS2 hb wa
      rename World => wa
      refine wpAnyH_ready (rs := [3]) (by kernel_rfl) (by simp) ?_
      refine AllReadyH.cons rfl (fun K hK => ?_) AllReadyH.nil
      rw [if_pos (by rfl)]
      refine wp_store_row 46 _ _ rfl (w.heap.size + 1) #[.int .i64 (nn : Int), .int .i64 0, .slice A1 nx.length d1, .slice A2 out.length d2] rfl rfl 46 _ Y2a.out (by kernel_rfl) rfl (by simp [Value.oneCell']) ?_
      refine hK.out _ _ (far_row_blk HSa.out (by have := HY1.out; omega)) (fun hS2 => ?_)
      clear hK K hS2
      change wpAnyH _ _ _ _ _ _ _ (Act.put _ none _) _
      try simp only [Act.put]
      generalize hwb : World.setRow _ _ _ = wb
      have hk1 : Kt (isT 46) wa wb := by rw [← hwb]; exact Kt.row Y2a.out.isT_
      replace HUa := Lib.hid (HUa.out.kt hk1 (isT_ne (by decide)) (isT_ne (by decide)))
      have Y2b : Hid (Blk wb (w.heap.size + 1) 46 #[.int .i64 (nn : Int), .int .i64 0, .slice A1 nx.length d1, .slice A2 out.length d2]) := Lib.hid (by rw [← hwb]; exact set_row_blk Y2a.out)
      have HBb : Hid (Below w.heap.size w wb) := Lib.hid (by rw [← hwb]; exact below_row (below_seq HBL.out HBa.out) hy1 _)
      replace HSa := Lib.hid (show Blk wb p6 46 #[.int .i64 (nn : Int), .int .i64 0, .slice A1 nx.length d1, .slice A2 out.length d2] by rw [← hwb]; exact far_row_blk HSa.out (by have := HY1.out; omega))
      clear hwb hk1 Y2a HBa wa
      rename World => wa
      refine takeH (i := 4) (d := some 3) (v := ?_) rfl rfl (by kernel_rfl) (by kernel_rfl) (by kernel_rfl) (fun _ _ _ h => h) (Or.inl ⟨by rfl, ?_⟩) HSa.out ?_
      rotate_left
      · intro wx hSx; clear hSx; first | (go_simp; done) | (go_simp; with_reducible rfl)
      simp only [Act.put, List.setIfInBounds_toArray, List.set_cons_zero, List.set_cons_succ]
      refine wpAnyH_done (by kernel_rfl) ?_ _
      go_wp2_with fail
      refine ret_c2 Y2b.out rfl rfl Try.underlying46 rfl (by kernel_rfl) rfl ?_
      rw [HF.out]
      exact ⟨⟨A1, A2, d1, d2, rfl, HUa.out.n.rd (by omega) (short_rows HOK.out.rowN HOK.out.k64), HUa.out.o.rd (by omega) (short_rows (n := k + T) (fun s hs => HOK.out.rowO s (by have := HOK.out.o; omega)) HOK.out.k64)⟩, HBb.out⟩
    have hj' : (j : Int) < (q.length : Int) := by omega
    obtain ⟨cc, hcc⟩ : ∃ cc, q[j]? = some cc := ⟨_, List.getElem?_eq_getElem hj⟩
    have HW := Lib.hid (HS.out.begin hcc)
    have HJC := Lib.hid hcc
    have HOK := Lib.hid (HS.out.good.ok cc (List.mem_of_getElem? hcc))
    have hbs : w1.heap.size ≤ wr.heap.size := HB.out.size
    clear hcc
    go_upto_region 13 with fail
    clear hj'
    go_cut [12, 13] (fun vns vos wx => Pr2 wx wr.heap.size vns vos [] [] ∧ Below wr.heap.size wr wx)
    case first =>
      refine wp_region_held_drew (S := fun wx => Below wr.heap.size wr wx) (by kernel_rfl) ((Below.refl _ _).drew) (fun hS => ?_)
      refine takeH (i := 0) (d := some 52) (v := ?_) rfl rfl (by kernel_rfl) (by kernel_rfl) (by kernel_rfl) (fun _ _ _ h => h) (Or.inl ⟨by rfl, ?_⟩) hS ?_
      rotate_left
      · intro wx hSx; clear hSx; first | (go_simp; done) | (go_simp; with_reducible rfl)
      simp only [Act.put, List.setIfInBounds_toArray, List.set_cons_zero, List.set_cons_succ]
      refine takeH (i := 2) (d := some 54) (v := ?_) rfl rfl (by kernel_rfl) (by kernel_rfl) (by kernel_rfl) (fun _ _ _ h => h) (Or.inl ⟨by rfl, ?_⟩) hS ?_
      rotate_left
      · intro wx hSx; clear hSx; first | (go_simp; done) | (go_simp; with_reducible rfl)
      simp only [Act.put, List.setIfInBounds_toArray, List.set_cons_zero, List.set_cons_succ]
      generalize hwa : World.drew _ = wa at hS ⊢
      clear hwa
      have HSa := Lib.hid hS
      clear hS
      refine wpAnyH_ready (rs := [1, 3]) (by kernel_rfl) (by simp) ?_
      refine AllReadyH.cons rfl (fun K hK => ?_) (AllReadyH.cons rfl (fun K hK => ?_) AllReadyH.nil)
      · skip
        rw [if_pos (by rfl)]
        have hmk := run_make_cap nn (by omega) wa
        go_simp
        refine hK.out _ _ (Below.alloc HSa.out HSa.out.size _) (fun hS2 => ?_)
        clear hK K hmk
        try simp only [Act.put, List.setIfInBounds_toArray, List.set_cons_zero, List.set_cons_succ]
        generalize hwb : World.alloc _ _ = wb at hS2 ⊢
        have hal : Below wa.heap.size wa wb := by rw [← hwb]; exact (Below.refl _ _).alloc (Nat.le_refl _) _
        have M1 : Hid (wb.ownsRow wr.heap.size 3 1 (.slice (some ⟨wa.heap.size, 0, none⟩) 0 nn) 0 []) := Lib.hid (by rw [← hwb]; exact rows_made wa nn _ (by omega) HSa.out.size)
        replace HSa := Lib.hid hS2
        generalize wa.heap.size = gM1 at *
        clear hS2 hwb hal
        rename World => wa
        refine takeH (i := 4) (d := some 12) (v := ?_) rfl rfl (by kernel_rfl) (by kernel_rfl) (by kernel_rfl) (fun _ _ _ h => h) (Or.inl ⟨by rfl, ?_⟩) HSa.out ?_
        rotate_left
        · intro wx hSx; clear hSx; first | (go_simp; done) | (go_simp; with_reducible rfl)
        simp only [Act.put, List.setIfInBounds_toArray, List.set_cons_zero, List.set_cons_succ]
        refine wpAnyH_ready (rs := [3]) (by kernel_rfl) (by simp) ?_
        refine AllReadyH.cons rfl (fun K hK => ?_) AllReadyH.nil
        rw [if_pos (by rfl)]
        have hmk := run_make_cap nn (by omega) wa
        go_simp
        refine hK.out _ _ (Below.alloc HSa.out HSa.out.size _) (fun hS2 => ?_)
        clear hK K hmk
        try simp only [Act.put, List.setIfInBounds_toArray, List.set_cons_zero, List.set_cons_succ]
        generalize hwb : World.alloc _ _ = wb at hS2 ⊢
        have hal : Below wa.heap.size wa wb := by rw [← hwb]; exact (Below.refl _ _).alloc (Nat.le_refl _) _
        have M3 : Hid (wb.ownsRow wr.heap.size 3 1 (.slice (some ⟨wa.heap.size, 0, none⟩) 0 nn) 0 []) := Lib.hid (by rw [← hwb]; exact rows_made wa nn _ (by omega) HSa.out.size)
        have HNE := Lib.hid (own_ne_new M1.out)
        replace M1 := Lib.hid (own_keep M1.out hal)
        replace HSa := Lib.hid hS2
        generalize wa.heap.size = gM3 at *
        clear hS2 hwb hal
        rename World => wa
        refine takeH (i := 5) (d := some 13) (v := ?_) rfl rfl (by kernel_rfl) (by kernel_rfl) (by kernel_rfl) (fun _ _ _ h => h) (Or.inl ⟨by rfl, ?_⟩) HSa.out ?_
        rotate_left
        · intro wx hSx; clear hSx; first | (go_simp; done) | (go_simp; with_reducible rfl)
        simp only [Act.put, List.setIfInBounds_toArray, List.set_cons_zero, List.set_cons_succ]
        refine wpAnyH_done (by kernel_rfl) ?_ _
        go_wp2_with fail
        go_meet
        exact ⟨⟨M1.out, M3.out, fun g h1 h2 => HNE.out (h1.trans h2.symm)⟩, HSa.out⟩
      · skip
        rw [if_pos (by rfl)]
        have hmk := run_make_cap nn (by omega) wa
        go_simp
        refine hK.out _ _ (Below.alloc HSa.out HSa.out.size _) (fun hS2 => ?_)
        clear hK K hmk
        try simp only [Act.put, List.setIfInBounds_toArray, List.set_cons_zero, List.set_cons_succ]
        generalize hwb : World.alloc _ _ = wb at hS2 ⊢
        have hal : Below wa.heap.size wa wb := by rw [← hwb]; exact (Below.refl _ _).alloc (Nat.le_refl _) _
        have M3 : Hid (wb.ownsRow wr.heap.size 3 1 (.slice (some ⟨wa.heap.size, 0, none⟩) 0 nn) 0 []) := Lib.hid (by rw [← hwb]; exact rows_made wa nn _ (by omega) HSa.out.size)
        replace HSa := Lib.hid hS2
        generalize wa.heap.size = gM3 at *
        clear hS2 hwb hal
        rename World => wa
        refine wpAnyH_ready (rs := [1]) (by kernel_rfl) (by simp) ?_
        refine AllReadyH.cons rfl (fun K hK => ?_) AllReadyH.nil
        rw [if_pos (by rfl)]
        have hmk := run_make_cap nn (by omega) wa
        go_simp
        refine hK.out _ _ (Below.alloc HSa.out HSa.out.size _) (fun hS2 => ?_)
        clear hK K hmk
        try simp only [Act.put, List.setIfInBounds_toArray, List.set_cons_zero, List.set_cons_succ]
        generalize hwb : World.alloc _ _ = wb at hS2 ⊢
        have hal : Below wa.heap.size wa wb := by rw [← hwb]; exact (Below.refl _ _).alloc (Nat.le_refl _) _
        have M1 : Hid (wb.ownsRow wr.heap.size 3 1 (.slice (some ⟨wa.heap.size, 0, none⟩) 0 nn) 0 []) := Lib.hid (by rw [← hwb]; exact rows_made wa nn _ (by omega) HSa.out.size)
        have HNE := Lib.hid (own_ne_new M3.out)
        replace M3 := Lib.hid (own_keep M3.out hal)
        replace HSa := Lib.hid hS2
        generalize wa.heap.size = gM1 at *
        clear hS2 hwb hal
        rename World => wa
        refine takeH (i := 4) (d := some 12) (v := ?_) rfl rfl (by kernel_rfl) (by kernel_rfl) (by kernel_rfl) (fun _ _ _ h => h) (Or.inl ⟨by rfl, ?_⟩) HSa.out ?_
        rotate_left
        · intro wx hSx; clear hSx; first | (go_simp; done) | (go_simp; with_reducible rfl)
        simp only [Act.put, List.setIfInBounds_toArray, List.set_cons_zero, List.set_cons_succ]
        refine takeH (i := 5) (d := some 13) (v := ?_) rfl rfl (by kernel_rfl) (by kernel_rfl) (by kernel_rfl) (fun _ _ _ h => h) (Or.inl ⟨by rfl, ?_⟩) HSa.out ?_
        rotate_left
        · intro wx hSx; clear hSx; first | (go_simp; done) | (go_simp; with_reducible rfl)
        simp only [Act.put, List.setIfInBounds_toArray, List.set_cons_zero, List.set_cons_succ]
        refine wpAnyH_done (by kernel_rfl) ?_ _
        go_wp2_with fail
        go_meet
        exact ⟨⟨M1.out, M3.out, fun g h1 h2 => HNE.out (h2.trans h1.symm)⟩, HSa.out⟩
    case rest =>
    obtain ⟨hpr, hbx⟩ := hcut
    rename World => wx
    try apply_assumption
    have HP0 := Lib.hid hpr
    have HK0 : Hid (Kt qm wr wx) := Lib.hid (Kt.below hbx)
    have HB0 := Lib.hid (below_seq HB.out hbx)
    have HN0 := Lib.hid (HN.out.keep hbx)
    have HO0 := Lib.hid (own_keep HO.out hbx)
    clear hpr hbx
    go_upto_region 15 with fail
    go_loopw [9, 12, 13, 57] (fun v vns vos i wy => ∃ (x : Nat) (q2 : List Tm.Cfg) (ns os : List Int), x ≤ nn ∧ i = .int .i64 x ∧ Hid (SeenN wy bm q2.length m.nx.length T q2) ∧ Hid (OwnL pcl 5 wy w1.heap.size 66 v q2) ∧ Hid (Pr2 wy wr.heap.size vns vos ns os) ∧ Hid (Tm.URow m k T cc j (Tm.uRow m k T cc j (k + T) 0 q [] []) q x q2 ns os) ∧ Hid (Kt qm wr wy) ∧ Hid (Below w1.heap.size w1 wy)) (fun _ _ _ i _ => 100 - (intOf i).toNat)
    case atStart => exact ⟨0, q, [], [], Nat.zero_le _, rfl, HN0, HO0, HP0, HW, HK0, HB0⟩
    case round =>
      clear HN0 HO0 HP0 HW HK0 HB0
      obtain ⟨x, q2, ns, os, hxle, rfl, HN, HO, HP, HW, HK, HB⟩ := hrel
      clear wx
      rename World => wy
      have hsz : w1.heap.size ≤ wy.heap.size := HB.out.size
      have hbr : wr.heap.size ≤ wy.heap.size := HK.out.size
      obtain ⟨E2, cE2, rfl⟩ := own_slice HO.out
      have hql2 : q2.length ≤ 128 := HW.out.q128
      have hjl : j < q2.length := (List.getElem?_eq_some_iff.1 HW.out.at_).1
      by_cases hx : x < nn
      rotate_left
      · have hxe : x = k + T := by have := HNN.out; omega
        have hx' : ¬ (x : Int) < (nn : Int) := by omega
        obtain ⟨N1, e1, rfl⟩ := own_slice HP.out.n
        obtain ⟨N2, e2, rfl⟩ := own_slice HP.out.o
        have HX : Hid (Tm.USea m k T S (Tm.unt m k T S) (j + 1) q2 (nx ++ [ns]) (out ++ [os])) := Lib.hid (HS.out.next HM.out hj HJC.out (hxe ▸ HW.out))
        have hnl : nx.length ≤ 1099511627776 := by have := HS.out.ln; omega
        have hol : out.length ≤ 1099511627776 := by have := HS.out.lo; omega
        have HLT : Hid (∀ g, (Value.slice A1 nx.length d1).ownBlock = some g → g < wy.heap.size) := Lib.hid (fun g hg => Nat.lt_of_lt_of_le (HU.out.n.blk_lt hg) hbr)
        have HI0 : Hid (B32 w1 wy bm m.nx.length T p6 nn wr.heap.size q2 (.slice E2 q2.length cE2) (.slice A1 nx.length d1) (.slice A2 out.length d2) (.slice N1 ns.length e1) (.slice N2 os.length e2) (.slice A1 nx.length d1) (.slice A2 out.length d2) ns os nx out) := Lib.hid ⟨HN.out, HO.out, HU.out.kt HK.out (qm_ne (by decide)) (qm_ne (by decide)), blk_kt Y6.out HK.out (qm_ne (by decide)), HP.out, HB.out⟩
        go_upto_region 32 with fail
        clear hx' hbr HN HO HU Y6 HP HB HK HW HS HJC hxe hx
        refine wp_region_L (late := [11, 13]) (Y := fun wx => wx.cell? ⟨p6, 2, none⟩ = some (.slice A1 nx.length d1) ∧ wx.cell? ⟨p6, 3, none⟩ = some (.slice A2 out.length d2)) (by kernel_rfl) (⟨HI0.out.y.cell 2, HI0.out.y.cell 3⟩) (fun hS => ?_)
        refine takeL (i := 0) (d := some 121) (v := ?_) rfl rfl (by kernel_rfl) (by kernel_rfl) (by kernel_rfl) (by kernel_rfl) (by kernel_rfl) (fun _ _ _ h => h) (Or.inl ⟨by rfl, ?_⟩) hS ?_
        rotate_left
        · intro wx hSx; clear hSx; first | (go_simp; done) | (go_simp; with_reducible rfl)
        simp only [Act.put, List.setIfInBounds_toArray, List.set_cons_zero, List.set_cons_succ]
        refine takeL (i := 1) (d := some 122) (v := ?_) rfl rfl (by kernel_rfl) (by kernel_rfl) (by kernel_rfl) (by kernel_rfl) (by kernel_rfl) (fun _ _ _ h => h) (Or.inl ⟨by rfl, ?_⟩) hS ?_
        rotate_left
        · intro wx hSx; have e0 := hSx.1; have e1 := hSx.2; clear hSx; first | (go_simp; done) | (go_simp; with_reducible rfl)
        simp only [Act.put, List.setIfInBounds_toArray, List.set_cons_zero, List.set_cons_succ]
        refine takeL (i := 2) (d := some 123) (v := ?_) rfl rfl (by kernel_rfl) (by kernel_rfl) (by kernel_rfl) (by kernel_rfl) (by kernel_rfl) (fun _ _ _ h => h) (Or.inl ⟨by rfl, ?_⟩) hS ?_
        rotate_left
        · intro wx hSx; clear hSx; first | (go_simp; done) | (go_simp; with_reducible rfl)
        simp only [Act.put, List.setIfInBounds_toArray, List.set_cons_zero, List.set_cons_succ]
        refine takeL (i := 5) (d := some 126) (v := ?_) rfl rfl (by kernel_rfl) (by kernel_rfl) (by kernel_rfl) (by kernel_rfl) (by kernel_rfl) (fun _ _ _ h => h) (Or.inl ⟨by rfl, ?_⟩) hS ?_
        rotate_left
        · intro wx hSx; clear hSx; first | (go_simp; done) | (go_simp; with_reducible rfl)
        simp only [Act.put, List.setIfInBounds_toArray, List.set_cons_zero, List.set_cons_succ]
        refine takeL (i := 6) (d := some 127) (v := ?_) rfl rfl (by kernel_rfl) (by kernel_rfl) (by kernel_rfl) (by kernel_rfl) (by kernel_rfl) (fun _ _ _ h => h) (Or.inl ⟨by rfl, ?_⟩) hS ?_
        rotate_left
        · intro wx hSx; have e0 := hSx.1; have e1 := hSx.2; clear hSx; first | (go_simp; done) | (go_simp; with_reducible rfl)
        simp only [Act.put, List.setIfInBounds_toArray, List.set_cons_zero, List.set_cons_succ]
        generalize hwa : World.drew _ = wa at hS ⊢
        have HI : Hid (B32 w1 wa bm m.nx.length T p6 nn wr.heap.size q2 _ _ _ _ _ _ _ ns os nx out) := Lib.hid (by rw [← hwa]; exact HI0.out.keep ((Below.refl _ _).drew))
        have hwa0 : wy.heap.size ≤ wa.heap.size := by rw [← hwa]; exact Nat.le_refl _
        clear hwa hS
        refine wpAnyL_ready (rs := [3, 7]) (by kernel_rfl) (by simp) ?_
        refine AllL.cons rfl (fun K hK => ?_) (AllL.cons rfl (fun K hK => ?_) AllL.nil)
        · skip
          rw [if_pos (by rfl)]
          go_simp
          generalize hwb : World.alloc _ _ = wb
          have hal : Below wa.heap.size wa wb := by rw [← hwb]; exact (Below.refl _ _).alloc (Nat.le_refl _) _
          have N1B : Hid (Blk wb wa.heap.size 59 #[.slice N1 ns.length e1]) := Lib.hid (by rw [← hwb]; exact Blk.new _ _ _)
          have hN1B : wy.heap.size ≤ wa.heap.size := hwa0
          replace hwa0 : wy.heap.size ≤ wb.heap.size := Nat.le_trans hwa0 hal.size
          replace HI := Lib.hid (HI.out.keep hal)
          refine hK.out _ _ (fun _ => ⟨HI.out.y.cell 2, HI.out.y.cell 3⟩) ?_
          clear hK K
          try simp only [Act.put, List.setIfInBounds_toArray, List.set_cons_zero, List.set_cons_succ]
          generalize wa.heap.size = gN1B at *
          clear hwb hal wa
          rename World => wa
          refine wpAnyL_ready (rs := [4, 7]) (by kernel_rfl) (by simp) ?_
          refine AllL.cons rfl (fun K hK => ?_) (AllL.cons rfl (fun K hK => ?_) AllL.nil)
          · skip
            rw [if_pos (by rfl)]
            obtain ⟨v7, w7, hrun7, hn7, hg7, hl7, hb7, hbad7⟩ := own_app (P := Try.prog) 22 22 59 3 Try.underlying22 infoR (by decide) N1B.out HI.out.u.n rfl (own_mono HI.out.p.rowN hbs) hnl (Nat.le_trans hsz hwa0)
            generalize nx ++ [ns] = nx7 at hn7 HX
            obtain ⟨A3, d3, rfl⟩ := hn7.slice
            refine wp_app_run (.tmp 122) (.tmp 124) 22 rfl hrun7 ?_
            replace hwa0 : wy.heap.size ≤ w7.heap.size := Nat.le_trans hwa0 hg7.size
            replace HI := Lib.hid (HI.out.appN hn7 hg7 hl7 hb7 hbad7)
            refine hK.out _ _ (fun _ => ⟨HI.out.y.cell 2, HI.out.y.cell 3⟩) ?_
            clear hK K hrun7
            try simp only [Act.put, List.setIfInBounds_toArray, List.set_cons_zero, List.set_cons_succ]
            clear hn7 hg7 hl7 hb7 hbad7 N1B wa
            rename World => wa
            refine takeL (i := 10) (d := some 131) (v := ?_) rfl rfl (by kernel_rfl) (by kernel_rfl) (by kernel_rfl) (by kernel_rfl) (by kernel_rfl) (fun _ _ _ h => h) (Or.inl ⟨by rfl, ?_⟩) ⟨HI.out.y.cell 2, HI.out.y.cell 3⟩ ?_
            rotate_left
            · intro wx hSx; clear hSx; first | (go_simp; done) | (go_simp; with_reducible rfl)
            simp only [Act.put, List.setIfInBounds_toArray, List.set_cons_zero, List.set_cons_succ]
            refine wpAnyL_ready (rs := [7]) (by kernel_rfl) (by simp) ?_
            refine AllL.cons rfl (fun K hK => ?_) AllL.nil
            rw [if_pos (by rfl)]
            go_simp
            refine hK.out _ _ (fun _ => ⟨HI.out.y.cell 2, HI.out.y.cell 3⟩) ?_
            clear hK K
            try simp only [Act.put, List.setIfInBounds_toArray, List.set_cons_zero, List.set_cons_succ]
            refine wpAnyL_ready (rs := [8]) (by kernel_rfl) (by simp) ?_
            refine AllL.cons rfl (fun K hK => ?_) AllL.nil
            rw [if_pos (by rfl)]
            go_simp
            generalize hwb : World.alloc _ _ = wb
            have hal : Below wa.heap.size wa wb := by rw [← hwb]; exact (Below.refl _ _).alloc (Nat.le_refl _) _
            have N2B : Hid (Blk wb wa.heap.size 59 #[.slice N2 os.length e2]) := Lib.hid (by rw [← hwb]; exact Blk.new _ _ _)
            have hN2B : wy.heap.size ≤ wa.heap.size := hwa0
            replace hwa0 : wy.heap.size ≤ wb.heap.size := Nat.le_trans hwa0 hal.size
            replace HI := Lib.hid (HI.out.keep hal)
            refine hK.out _ _ (fun _ => ⟨HI.out.y.cell 2, HI.out.y.cell 3⟩) ?_
            clear hK K
            try simp only [Act.put, List.setIfInBounds_toArray, List.set_cons_zero, List.set_cons_succ]
            generalize wa.heap.size = gN2B at *
            clear hwb hal wa
            rename World => wa
            refine wpAnyL_ready (rs := [9]) (by kernel_rfl) (by simp) ?_
            refine AllL.cons rfl (fun K hK => ?_) AllL.nil
            rw [if_pos (by rfl)]
            obtain ⟨v7, w7, hrun7, hn7, hg7, hl7, hb7, hbad7⟩ := own_app (P := Try.prog) 22 22 59 3 Try.underlying22 infoR (by decide) N2B.out HI.out.u.o rfl (own_mono HI.out.p.rowO hbs) hol (Nat.le_trans hsz hwa0)
            generalize out ++ [os] = out7 at hn7 HX
            obtain ⟨A4, d4, rfl⟩ := hn7.slice
            refine wp_app_run (.tmp 127) (.tmp 129) 22 rfl hrun7 ?_
            replace hwa0 : wy.heap.size ≤ w7.heap.size := Nat.le_trans hwa0 hg7.size
            replace HI := Lib.hid (HI.out.appO hn7 hg7 hl7 hb7 hbad7)
            refine hK.out _ _ (fun _ => ⟨HI.out.y.cell 2, HI.out.y.cell 3⟩) ?_
            clear hK K hrun7
            try simp only [Act.put, List.setIfInBounds_toArray, List.set_cons_zero, List.set_cons_succ]
            clear hn7 hg7 hl7 hb7 hbad7 N2B wa
            rename World => wa
            refine wpAnyL_ready (rs := [11]) (by kernel_rfl) (by simp) ?_
            refine AllL.cons rfl (fun K hK => ?_) AllL.nil
            rw [if_pos (by rfl)]
            have y2 := HI.out.y.cell 2
            have f2 := HI.out.y.frozen 2
            go_simp
            refine hK.out _ _ (fun h => absurd (show true = false from h 11 (by simp)) (by decide)) ?_
            clear hK K y2 f2
            try simp only [Act.put]
            generalize hwb : World.setCell _ _ _ = wb
            replace HI := Lib.hid (HI.out.set2 hp6 (.slice A3 nx7.length d3))
            rw [hwb] at HI
            clear hwb hwa0 wa
            have hwa0 : True := trivial
            rename World => wa
            refine wpAnyL_ready (rs := [12]) (by kernel_rfl) (by simp) ?_
            refine AllL.cons rfl (fun K hK => ?_) AllL.nil
            rw [if_pos (by rfl)]
            go_simp
            refine hK.out _ _ (fun h => absurd (show true = false from h 11 (by simp)) (by decide)) ?_
            clear hK K
            try simp only [Act.put, List.setIfInBounds_toArray, List.set_cons_zero, List.set_cons_succ]
            refine wpAnyL_ready (rs := [13]) (by kernel_rfl) (by simp) ?_
            refine AllL.cons rfl (fun K hK => ?_) AllL.nil
            rw [if_pos (by rfl)]
            have y2 := HI.out.y.cell 3
            have f2 := HI.out.y.frozen 3
            go_simp
            refine hK.out _ _ (fun h => absurd (show true = false from h 11 (by simp)) (by decide)) ?_
            clear hK K y2 f2
            try simp only [Act.put]
            generalize hwb : World.setCell _ _ _ = wb
            replace HI := Lib.hid (HI.out.set3 hp6 (.slice A4 out7.length d4))
            rw [hwb] at HI
            clear hwb hwa0 wa
            have hwa0 : True := trivial
            rename World => wa
            refine wpAnyL_done (by kernel_rfl) ?_ _
            go_wp2_with fail
            go_roundw
            case rel => exact ⟨j + 1, q2, _, _, nx7, out7, by go_num, Lib.hid HI.out.n, Lib.hid HI.out.o, Lib.hid HI.out.u, Lib.hid HI.out.y, HX, Lib.hid HI.out.b⟩
            case measure => simp [intOf] <;> omega
          · skip
            rw [if_pos (by rfl)]
            go_simp
            refine hK.out _ _ (fun _ => ⟨HI.out.y.cell 2, HI.out.y.cell 3⟩) ?_
            clear hK K
            try simp only [Act.put, List.setIfInBounds_toArray, List.set_cons_zero, List.set_cons_succ]
            refine wpAnyL_ready (rs := [4, 8]) (by kernel_rfl) (by simp) ?_
            refine AllL.cons rfl (fun K hK => ?_) (AllL.cons rfl (fun K hK => ?_) AllL.nil)
            · skip
              rw [if_pos (by rfl)]
              obtain ⟨v7, w7, hrun7, hn7, hg7, hl7, hb7, hbad7⟩ := own_app (P := Try.prog) 22 22 59 3 Try.underlying22 infoR (by decide) N1B.out HI.out.u.n rfl (own_mono HI.out.p.rowN hbs) hnl (Nat.le_trans hsz hwa0)
              generalize nx ++ [ns] = nx7 at hn7 HX
              obtain ⟨A3, d3, rfl⟩ := hn7.slice
              refine wp_app_run (.tmp 122) (.tmp 124) 22 rfl hrun7 ?_
              replace hwa0 : wy.heap.size ≤ w7.heap.size := Nat.le_trans hwa0 hg7.size
              replace HI := Lib.hid (HI.out.appN hn7 hg7 hl7 hb7 hbad7)
              refine hK.out _ _ (fun _ => ⟨HI.out.y.cell 2, HI.out.y.cell 3⟩) ?_
              clear hK K hrun7
              try simp only [Act.put, List.setIfInBounds_toArray, List.set_cons_zero, List.set_cons_succ]
              clear hn7 hg7 hl7 hb7 hbad7 N1B wa
              rename World => wa
              refine takeL (i := 10) (d := some 131) (v := ?_) rfl rfl (by kernel_rfl) (by kernel_rfl) (by kernel_rfl) (by kernel_rfl) (by kernel_rfl) (fun _ _ _ h => h) (Or.inl ⟨by rfl, ?_⟩) ⟨HI.out.y.cell 2, HI.out.y.cell 3⟩ ?_
              rotate_left
              · intro wx hSx; clear hSx; first | (go_simp; done) | (go_simp; with_reducible rfl)
              simp only [Act.put, List.setIfInBounds_toArray, List.set_cons_zero, List.set_cons_succ]
              refine wpAnyL_ready (rs := [8]) (by kernel_rfl) (by simp) ?_
              refine AllL.cons rfl (fun K hK => ?_) AllL.nil
              rw [if_pos (by rfl)]
              go_simp
              generalize hwb : World.alloc _ _ = wb
              have hal : Below wa.heap.size wa wb := by rw [← hwb]; exact (Below.refl _ _).alloc (Nat.le_refl _) _
              have N2B : Hid (Blk wb wa.heap.size 59 #[.slice N2 os.length e2]) := Lib.hid (by rw [← hwb]; exact Blk.new _ _ _)
              have hN2B : wy.heap.size ≤ wa.heap.size := hwa0
              replace hwa0 : wy.heap.size ≤ wb.heap.size := Nat.le_trans hwa0 hal.size
              replace HI := Lib.hid (HI.out.keep hal)
              refine hK.out _ _ (fun _ => ⟨HI.out.y.cell 2, HI.out.y.cell 3⟩) ?_
              clear hK K
              try simp only [Act.put, List.setIfInBounds_toArray, List.set_cons_zero, List.set_cons_succ]
              generalize wa.heap.size = gN2B at *
              clear hwb hal wa
              rename World => wa
              refine wpAnyL_ready (rs := [9]) (by kernel_rfl) (by simp) ?_
              refine AllL.cons rfl (fun K hK => ?_) AllL.nil
              rw [if_pos (by rfl)]
              obtain ⟨v7, w7, hrun7, hn7, hg7, hl7, hb7, hbad7⟩ := own_app (P := Try.prog) 22 22 59 3 Try.underlying22 infoR (by decide) N2B.out HI.out.u.o rfl (own_mono HI.out.p.rowO hbs) hol (Nat.le_trans hsz hwa0)
              generalize out ++ [os] = out7 at hn7 HX
              obtain ⟨A4, d4, rfl⟩ := hn7.slice
              refine wp_app_run (.tmp 127) (.tmp 129) 22 rfl hrun7 ?_
              replace hwa0 : wy.heap.size ≤ w7.heap.size := Nat.le_trans hwa0 hg7.size
              replace HI := Lib.hid (HI.out.appO hn7 hg7 hl7 hb7 hbad7)
              refine hK.out _ _ (fun _ => ⟨HI.out.y.cell 2, HI.out.y.cell 3⟩) ?_
              clear hK K hrun7
              try simp only [Act.put, List.setIfInBounds_toArray, List.set_cons_zero, List.set_cons_succ]
              clear hn7 hg7 hl7 hb7 hbad7 N2B wa
              rename World => wa
              refine wpAnyL_ready (rs := [11]) (by kernel_rfl) (by simp) ?_
              refine AllL.cons rfl (fun K hK => ?_) AllL.nil
              rw [if_pos (by rfl)]
              have y2 := HI.out.y.cell 2
              have f2 := HI.out.y.frozen 2
              go_simp
              refine hK.out _ _ (fun h => absurd (show true = false from h 11 (by simp)) (by decide)) ?_
              clear hK K y2 f2
              try simp only [Act.put]
              generalize hwb : World.setCell _ _ _ = wb
              replace HI := Lib.hid (HI.out.set2 hp6 (.slice A3 nx7.length d3))
              rw [hwb] at HI
              clear hwb hwa0 wa
              have hwa0 : True := trivial
              rename World => wa
              refine wpAnyL_ready (rs := [12]) (by kernel_rfl) (by simp) ?_
              refine AllL.cons rfl (fun K hK => ?_) AllL.nil
              rw [if_pos (by rfl)]
              go_simp
              refine hK.out _ _ (fun h => absurd (show true = false from h 11 (by simp)) (by decide)) ?_
              clear hK K
              try simp only [Act.put, List.setIfInBounds_toArray, List.set_cons_zero, List.set_cons_succ]
              refine wpAnyL_ready (rs := [13]) (by kernel_rfl) (by simp) ?_
              refine AllL.cons rfl (fun K hK => ?_) AllL.nil
              rw [if_pos (by rfl)]
              have y2 := HI.out.y.cell 3
              have f2 := HI.out.y.frozen 3
              go_simp
              refine hK.out _ _ (fun h => absurd (show true = false from h 11 (by simp)) (by decide)) ?_
              clear hK K y2 f2
              try simp only [Act.put]
              generalize hwb : World.setCell _ _ _ = wb
              replace HI := Lib.hid (HI.out.set3 hp6 (.slice A4 out7.length d4))
              rw [hwb] at HI
              clear hwb hwa0 wa
              have hwa0 : True := trivial
              rename World => wa
              refine wpAnyL_done (by kernel_rfl) ?_ _
              go_wp2_with fail
              go_roundw
              case rel => exact ⟨j + 1, q2, _, _, nx7, out7, by go_num, Lib.hid HI.out.n, Lib.hid HI.out.o, Lib.hid HI.out.u, Lib.hid HI.out.y, HX, Lib.hid HI.out.b⟩
              case measure => simp [intOf] <;> omega
            · skip
              rw [if_pos (by rfl)]
              go_simp
              generalize hwb : World.alloc _ _ = wb
              have hal : Below wa.heap.size wa wb := by rw [← hwb]; exact (Below.refl _ _).alloc (Nat.le_refl _) _
              have N2B : Hid (Blk wb wa.heap.size 59 #[.slice N2 os.length e2]) := Lib.hid (by rw [← hwb]; exact Blk.new _ _ _)
              have hN2B : wy.heap.size ≤ wa.heap.size := hwa0
              replace hwa0 : wy.heap.size ≤ wb.heap.size := Nat.le_trans hwa0 hal.size
              replace HI := Lib.hid (HI.out.keep hal)
              refine hK.out _ _ (fun _ => ⟨HI.out.y.cell 2, HI.out.y.cell 3⟩) ?_
              clear hK K
              try simp only [Act.put, List.setIfInBounds_toArray, List.set_cons_zero, List.set_cons_succ]
              replace N1B := Lib.hid (N1B.out.keep hal)
              generalize wa.heap.size = gN2B at *
              clear hwb hal wa
              rename World => wa
              refine wpAnyL_ready (rs := [4]) (by kernel_rfl) (by simp) ?_
              refine AllL.cons rfl (fun K hK => ?_) AllL.nil
              rw [if_pos (by rfl)]
              obtain ⟨v7, w7, hrun7, hn7, hg7, hl7, hb7, hbad7⟩ := own_app (P := Try.prog) 22 22 59 3 Try.underlying22 infoR (by decide) N1B.out HI.out.u.n rfl (own_mono HI.out.p.rowN hbs) hnl (Nat.le_trans hsz hwa0)
              generalize nx ++ [ns] = nx7 at hn7 HX
              obtain ⟨A3, d3, rfl⟩ := hn7.slice
              refine wp_app_run (.tmp 122) (.tmp 124) 22 rfl hrun7 ?_
              replace hwa0 : wy.heap.size ≤ w7.heap.size := Nat.le_trans hwa0 hg7.size
              replace N2B := Lib.hid (N2B.out.grown hg7 (fun e => by have := HLT.out _ e.symm; omega))
              replace HI := Lib.hid (HI.out.appN hn7 hg7 hl7 hb7 hbad7)
              refine hK.out _ _ (fun _ => ⟨HI.out.y.cell 2, HI.out.y.cell 3⟩) ?_
              clear hK K hrun7
              try simp only [Act.put, List.setIfInBounds_toArray, List.set_cons_zero, List.set_cons_succ]
              clear hn7 hg7 hl7 hb7 hbad7 N1B wa
              rename World => wa
              refine takeL (i := 10) (d := some 131) (v := ?_) rfl rfl (by kernel_rfl) (by kernel_rfl) (by kernel_rfl) (by kernel_rfl) (by kernel_rfl) (fun _ _ _ h => h) (Or.inl ⟨by rfl, ?_⟩) ⟨HI.out.y.cell 2, HI.out.y.cell 3⟩ ?_
              rotate_left
              · intro wx hSx; clear hSx; first | (go_simp; done) | (go_simp; with_reducible rfl)
              simp only [Act.put, List.setIfInBounds_toArray, List.set_cons_zero, List.set_cons_succ]
              refine wpAnyL_ready (rs := [9]) (by kernel_rfl) (by simp) ?_
              refine AllL.cons rfl (fun K hK => ?_) AllL.nil
              rw [if_pos (by rfl)]
              obtain ⟨v7, w7, hrun7, hn7, hg7, hl7, hb7, hbad7⟩ := own_app (P := Try.prog) 22 22 59 3 Try.underlying22 infoR (by decide) N2B.out HI.out.u.o rfl (own_mono HI.out.p.rowO hbs) hol (Nat.le_trans hsz hwa0)
              generalize out ++ [os] = out7 at hn7 HX
              obtain ⟨A4, d4, rfl⟩ := hn7.slice
              refine wp_app_run (.tmp 127) (.tmp 129) 22 rfl hrun7 ?_
              replace hwa0 : wy.heap.size ≤ w7.heap.size := Nat.le_trans hwa0 hg7.size
              replace HI := Lib.hid (HI.out.appO hn7 hg7 hl7 hb7 hbad7)
              refine hK.out _ _ (fun _ => ⟨HI.out.y.cell 2, HI.out.y.cell 3⟩) ?_
              clear hK K hrun7
              try simp only [Act.put, List.setIfInBounds_toArray, List.set_cons_zero, List.set_cons_succ]
              clear hn7 hg7 hl7 hb7 hbad7 N2B wa
              rename World => wa
              refine wpAnyL_ready (rs := [11]) (by kernel_rfl) (by simp) ?_
              refine AllL.cons rfl (fun K hK => ?_) AllL.nil
              rw [if_pos (by rfl)]
              have y2 := HI.out.y.cell 2
              have f2 := HI.out.y.frozen 2
              go_simp
              refine hK.out _ _ (fun h => absurd (show true = false from h 11 (by simp)) (by decide)) ?_
              clear hK K y2 f2
              try simp only [Act.put]
              generalize hwb : World.setCell _ _ _ = wb
              replace HI := Lib.hid (HI.out.set2 hp6 (.slice A3 nx7.length d3))
              rw [hwb] at HI
              clear hwb hwa0 wa
              have hwa0 : True := trivial
              rename World => wa
              refine wpAnyL_ready (rs := [12]) (by kernel_rfl) (by simp) ?_
              refine AllL.cons rfl (fun K hK => ?_) AllL.nil
              rw [if_pos (by rfl)]
              go_simp
              refine hK.out _ _ (fun h => absurd (show true = false from h 11 (by simp)) (by decide)) ?_
              clear hK K
              try simp only [Act.put, List.setIfInBounds_toArray, List.set_cons_zero, List.set_cons_succ]
              refine wpAnyL_ready (rs := [13]) (by kernel_rfl) (by simp) ?_
              refine AllL.cons rfl (fun K hK => ?_) AllL.nil
              rw [if_pos (by rfl)]
              have y2 := HI.out.y.cell 3
              have f2 := HI.out.y.frozen 3
              go_simp
              refine hK.out _ _ (fun h => absurd (show true = false from h 11 (by simp)) (by decide)) ?_
              clear hK K y2 f2
              try simp only [Act.put]
              generalize hwb : World.setCell _ _ _ = wb
              replace HI := Lib.hid (HI.out.set3 hp6 (.slice A4 out7.length d4))
              rw [hwb] at HI
              clear hwb hwa0 wa
              have hwa0 : True := trivial
              rename World => wa
              refine wpAnyL_done (by kernel_rfl) ?_ _
              go_wp2_with fail
              go_roundw
              case rel => exact ⟨j + 1, q2, _, _, nx7, out7, by go_num, Lib.hid HI.out.n, Lib.hid HI.out.o, Lib.hid HI.out.u, Lib.hid HI.out.y, HX, Lib.hid HI.out.b⟩
              case measure => simp [intOf] <;> omega
        · skip
          rw [if_pos (by rfl)]
          go_simp
          refine hK.out _ _ (fun _ => ⟨HI.out.y.cell 2, HI.out.y.cell 3⟩) ?_
          clear hK K
          try simp only [Act.put, List.setIfInBounds_toArray, List.set_cons_zero, List.set_cons_succ]
          refine wpAnyL_ready (rs := [3, 8]) (by kernel_rfl) (by simp) ?_
          refine AllL.cons rfl (fun K hK => ?_) (AllL.cons rfl (fun K hK => ?_) AllL.nil)
          · skip
            rw [if_pos (by rfl)]
            go_simp
            generalize hwb : World.alloc _ _ = wb
            have hal : Below wa.heap.size wa wb := by rw [← hwb]; exact (Below.refl _ _).alloc (Nat.le_refl _) _
            have N1B : Hid (Blk wb wa.heap.size 59 #[.slice N1 ns.length e1]) := Lib.hid (by rw [← hwb]; exact Blk.new _ _ _)
            have hN1B : wy.heap.size ≤ wa.heap.size := hwa0
            replace hwa0 : wy.heap.size ≤ wb.heap.size := Nat.le_trans hwa0 hal.size
            replace HI := Lib.hid (HI.out.keep hal)
            refine hK.out _ _ (fun _ => ⟨HI.out.y.cell 2, HI.out.y.cell 3⟩) ?_
            clear hK K
            try simp only [Act.put, List.setIfInBounds_toArray, List.set_cons_zero, List.set_cons_succ]
            generalize wa.heap.size = gN1B at *
            clear hwb hal wa
            rename World => wa
            refine wpAnyL_ready (rs := [4, 8]) (by kernel_rfl) (by simp) ?_
            refine AllL.cons rfl (fun K hK => ?_) (AllL.cons rfl (fun K hK => ?_) AllL.nil)
            · skip
              rw [if_pos (by rfl)]
              obtain ⟨v7, w7, hrun7, hn7, hg7, hl7, hb7, hbad7⟩ := own_app (P := Try.prog) 22 22 59 3 Try.underlying22 infoR (by decide) N1B.out HI.out.u.n rfl (own_mono HI.out.p.rowN hbs) hnl (Nat.le_trans hsz hwa0)
              generalize nx ++ [ns] = nx7 at hn7 HX
              obtain ⟨A3, d3, rfl⟩ := hn7.slice
              refine wp_app_run (.tmp 122) (.tmp 124) 22 rfl hrun7 ?_
              replace hwa0 : wy.heap.size ≤ w7.heap.size := Nat.le_trans hwa0 hg7.size
              replace HI := Lib.hid (HI.out.appN hn7 hg7 hl7 hb7 hbad7)
              refine hK.out _ _ (fun _ => ⟨HI.out.y.cell 2, HI.out.y.cell 3⟩) ?_
              clear hK K hrun7
              try simp only [Act.put, List.setIfInBounds_toArray, List.set_cons_zero, List.set_cons_succ]
              clear hn7 hg7 hl7 hb7 hbad7 N1B wa
              rename World => wa
              refine takeL (i := 10) (d := some 131) (v := ?_) rfl rfl (by kernel_rfl) (by kernel_rfl) (by kernel_rfl) (by kernel_rfl) (by kernel_rfl) (fun _ _ _ h => h) (Or.inl ⟨by rfl, ?_⟩) ⟨HI.out.y.cell 2, HI.out.y.cell 3⟩ ?_
              rotate_left
              · intro wx hSx; clear hSx; first | (go_simp; done) | (go_simp; with_reducible rfl)
              simp only [Act.put, List.setIfInBounds_toArray, List.set_cons_zero, List.set_cons_succ]
              refine wpAnyL_ready (rs := [8]) (by kernel_rfl) (by simp) ?_
              refine AllL.cons rfl (fun K hK => ?_) AllL.nil
              rw [if_pos (by rfl)]
              go_simp
              generalize hwb : World.alloc _ _ = wb
              have hal : Below wa.heap.size wa wb := by rw [← hwb]; exact (Below.refl _ _).alloc (Nat.le_refl _) _
              have N2B : Hid (Blk wb wa.heap.size 59 #[.slice N2 os.length e2]) := Lib.hid (by rw [← hwb]; exact Blk.new _ _ _)
              have hN2B : wy.heap.size ≤ wa.heap.size := hwa0
              replace hwa0 : wy.heap.size ≤ wb.heap.size := Nat.le_trans hwa0 hal.size
              replace HI := Lib.hid (HI.out.keep hal)
              refine hK.out _ _ (fun _ => ⟨HI.out.y.cell 2, HI.out.y.cell 3⟩) ?_
              clear hK K
              try simp only [Act.put, List.setIfInBounds_toArray, List.set_cons_zero, List.set_cons_succ]
              generalize wa.heap.size = gN2B at *
              clear hwb hal wa
              rename World => wa
              refine wpAnyL_ready (rs := [9]) (by kernel_rfl) (by simp) ?_
              refine AllL.cons rfl (fun K hK => ?_) AllL.nil
              rw [if_pos (by rfl)]
              obtain ⟨v7, w7, hrun7, hn7, hg7, hl7, hb7, hbad7⟩ := own_app (P := Try.prog) 22 22 59 3 Try.underlying22 infoR (by decide) N2B.out HI.out.u.o rfl (own_mono HI.out.p.rowO hbs) hol (Nat.le_trans hsz hwa0)
              generalize out ++ [os] = out7 at hn7 HX
              obtain ⟨A4, d4, rfl⟩ := hn7.slice
              refine wp_app_run (.tmp 127) (.tmp 129) 22 rfl hrun7 ?_
              replace hwa0 : wy.heap.size ≤ w7.heap.size := Nat.le_trans hwa0 hg7.size
              replace HI := Lib.hid (HI.out.appO hn7 hg7 hl7 hb7 hbad7)
              refine hK.out _ _ (fun _ => ⟨HI.out.y.cell 2, HI.out.y.cell 3⟩) ?_
              clear hK K hrun7
              try simp only [Act.put, List.setIfInBounds_toArray, List.set_cons_zero, List.set_cons_succ]
              clear hn7 hg7 hl7 hb7 hbad7 N2B wa
              rename World => wa
              refine wpAnyL_ready (rs := [11]) (by kernel_rfl) (by simp) ?_
              refine AllL.cons rfl (fun K hK => ?_) AllL.nil
              rw [if_pos (by rfl)]
              have y2 := HI.out.y.cell 2
              have f2 := HI.out.y.frozen 2
              go_simp
              refine hK.out _ _ (fun h => absurd (show true = false from h 11 (by simp)) (by decide)) ?_
              clear hK K y2 f2
              try simp only [Act.put]
              generalize hwb : World.setCell _ _ _ = wb
              replace HI := Lib.hid (HI.out.set2 hp6 (.slice A3 nx7.length d3))
              rw [hwb] at HI
              clear hwb hwa0 wa
              have hwa0 : True := trivial
              rename World => wa
              refine wpAnyL_ready (rs := [12]) (by kernel_rfl) (by simp) ?_
              refine AllL.cons rfl (fun K hK => ?_) AllL.nil
              rw [if_pos (by rfl)]
              go_simp
              refine hK.out _ _ (fun h => absurd (show true = false from h 11 (by simp)) (by decide)) ?_
              clear hK K
              try simp only [Act.put, List.setIfInBounds_toArray, List.set_cons_zero, List.set_cons_succ]
              refine wpAnyL_ready (rs := [13]) (by kernel_rfl) (by simp) ?_
              refine AllL.cons rfl (fun K hK => ?_) AllL.nil
              rw [if_pos (by rfl)]
              have y2 := HI.out.y.cell 3
              have f2 := HI.out.y.frozen 3
              go_simp
              refine hK.out _ _ (fun h => absurd (show true = false from h 11 (by simp)) (by decide)) ?_
              clear hK K y2 f2
              try simp only [Act.put]
              generalize hwb : World.setCell _ _ _ = wb
              replace HI := Lib.hid (HI.out.set3 hp6 (.slice A4 out7.length d4))
              rw [hwb] at HI
              clear hwb hwa0 wa
              have hwa0 : True := trivial
              rename World => wa
              refine wpAnyL_done (by kernel_rfl) ?_ _
              go_wp2_with fail
              go_roundw
              case rel => exact ⟨j + 1, q2, _, _, nx7, out7, by go_num, Lib.hid HI.out.n, Lib.hid HI.out.o, Lib.hid HI.out.u, Lib.hid HI.out.y, HX, Lib.hid HI.out.b⟩
              case measure => simp [intOf] <;> omega
            · skip
              rw [if_pos (by rfl)]
              go_simp
              generalize hwb : World.alloc _ _ = wb
              have hal : Below wa.heap.size wa wb := by rw [← hwb]; exact (Below.refl _ _).alloc (Nat.le_refl _) _
              have N2B : Hid (Blk wb wa.heap.size 59 #[.slice N2 os.length e2]) := Lib.hid (by rw [← hwb]; exact Blk.new _ _ _)
              have hN2B : wy.heap.size ≤ wa.heap.size := hwa0
              replace hwa0 : wy.heap.size ≤ wb.heap.size := Nat.le_trans hwa0 hal.size
              replace HI := Lib.hid (HI.out.keep hal)
              refine hK.out _ _ (fun _ => ⟨HI.out.y.cell 2, HI.out.y.cell 3⟩) ?_
              clear hK K
              try simp only [Act.put, List.setIfInBounds_toArray, List.set_cons_zero, List.set_cons_succ]
              replace N1B := Lib.hid (N1B.out.keep hal)
              generalize wa.heap.size = gN2B at *
              clear hwb hal wa
              rename World => wa
              refine wpAnyL_ready (rs := [4]) (by kernel_rfl) (by simp) ?_
              refine AllL.cons rfl (fun K hK => ?_) AllL.nil
              rw [if_pos (by rfl)]
              obtain ⟨v7, w7, hrun7, hn7, hg7, hl7, hb7, hbad7⟩ := own_app (P := Try.prog) 22 22 59 3 Try.underlying22 infoR (by decide) N1B.out HI.out.u.n rfl (own_mono HI.out.p.rowN hbs) hnl (Nat.le_trans hsz hwa0)
              generalize nx ++ [ns] = nx7 at hn7 HX
              obtain ⟨A3, d3, rfl⟩ := hn7.slice
              refine wp_app_run (.tmp 122) (.tmp 124) 22 rfl hrun7 ?_
              replace hwa0 : wy.heap.size ≤ w7.heap.size := Nat.le_trans hwa0 hg7.size
              replace N2B := Lib.hid (N2B.out.grown hg7 (fun e => by have := HLT.out _ e.symm; omega))
              replace HI := Lib.hid (HI.out.appN hn7 hg7 hl7 hb7 hbad7)
              refine hK.out _ _ (fun _ => ⟨HI.out.y.cell 2, HI.out.y.cell 3⟩) ?_
              clear hK K hrun7
              try simp only [Act.put, List.setIfInBounds_toArray, List.set_cons_zero, List.set_cons_succ]
              clear hn7 hg7 hl7 hb7 hbad7 N1B wa
              rename World => wa
              refine takeL (i := 10) (d := some 131) (v := ?_) rfl rfl (by kernel_rfl) (by kernel_rfl) (by kernel_rfl) (by kernel_rfl) (by kernel_rfl) (fun _ _ _ h => h) (Or.inl ⟨by rfl, ?_⟩) ⟨HI.out.y.cell 2, HI.out.y.cell 3⟩ ?_
              rotate_left
              · intro wx hSx; clear hSx; first | (go_simp; done) | (go_simp; with_reducible rfl)
              simp only [Act.put, List.setIfInBounds_toArray, List.set_cons_zero, List.set_cons_succ]
              refine wpAnyL_ready (rs := [9]) (by kernel_rfl) (by simp) ?_
              refine AllL.cons rfl (fun K hK => ?_) AllL.nil
              rw [if_pos (by rfl)]
              obtain ⟨v7, w7, hrun7, hn7, hg7, hl7, hb7, hbad7⟩ := own_app (P := Try.prog) 22 22 59 3 Try.underlying22 infoR (by decide) N2B.out HI.out.u.o rfl (own_mono HI.out.p.rowO hbs) hol (Nat.le_trans hsz hwa0)
              generalize out ++ [os] = out7 at hn7 HX
              obtain ⟨A4, d4, rfl⟩ := hn7.slice
              refine wp_app_run (.tmp 127) (.tmp 129) 22 rfl hrun7 ?_
              replace hwa0 : wy.heap.size ≤ w7.heap.size := Nat.le_trans hwa0 hg7.size
              replace HI := Lib.hid (HI.out.appO hn7 hg7 hl7 hb7 hbad7)
              refine hK.out _ _ (fun _ => ⟨HI.out.y.cell 2, HI.out.y.cell 3⟩) ?_
              clear hK K hrun7
              try simp only [Act.put, List.setIfInBounds_toArray, List.set_cons_zero, List.set_cons_succ]
              clear hn7 hg7 hl7 hb7 hbad7 N2B wa
              rename World => wa
              refine wpAnyL_ready (rs := [11]) (by kernel_rfl) (by simp) ?_
              refine AllL.cons rfl (fun K hK => ?_) AllL.nil
              rw [if_pos (by rfl)]
              have y2 := HI.out.y.cell 2
              have f2 := HI.out.y.frozen 2
              go_simp
              refine hK.out _ _ (fun h => absurd (show true = false from h 11 (by simp)) (by decide)) ?_
              clear hK K y2 f2
              try simp only [Act.put]
              generalize hwb : World.setCell _ _ _ = wb
              replace HI := Lib.hid (HI.out.set2 hp6 (.slice A3 nx7.length d3))
              rw [hwb] at HI
              clear hwb hwa0 wa
              have hwa0 : True := trivial
              rename World => wa
              refine wpAnyL_ready (rs := [12]) (by kernel_rfl) (by simp) ?_
              refine AllL.cons rfl (fun K hK => ?_) AllL.nil
              rw [if_pos (by rfl)]
              go_simp
              refine hK.out _ _ (fun h => absurd (show true = false from h 11 (by simp)) (by decide)) ?_
              clear hK K
              try simp only [Act.put, List.setIfInBounds_toArray, List.set_cons_zero, List.set_cons_succ]
              refine wpAnyL_ready (rs := [13]) (by kernel_rfl) (by simp) ?_
              refine AllL.cons rfl (fun K hK => ?_) AllL.nil
              rw [if_pos (by rfl)]
              have y2 := HI.out.y.cell 3
              have f2 := HI.out.y.frozen 3
              go_simp
              refine hK.out _ _ (fun h => absurd (show true = false from h 11 (by simp)) (by decide)) ?_
              clear hK K y2 f2
              try simp only [Act.put]
              generalize hwb : World.setCell _ _ _ = wb
              replace HI := Lib.hid (HI.out.set3 hp6 (.slice A4 out7.length d4))
              rw [hwb] at HI
              clear hwb hwa0 wa
              have hwa0 : True := trivial
              rename World => wa
              refine wpAnyL_done (by kernel_rfl) ?_ _
              go_wp2_with fail
              go_roundw
              case rel => exact ⟨j + 1, q2, _, _, nx7, out7, by go_num, Lib.hid HI.out.n, Lib.hid HI.out.o, Lib.hid HI.out.u, Lib.hid HI.out.y, HX, Lib.hid HI.out.b⟩
              case measure => simp [intOf] <;> omega
          · skip
            rw [if_pos (by rfl)]
            go_simp
            generalize hwb : World.alloc _ _ = wb
            have hal : Below wa.heap.size wa wb := by rw [← hwb]; exact (Below.refl _ _).alloc (Nat.le_refl _) _
            have N2B : Hid (Blk wb wa.heap.size 59 #[.slice N2 os.length e2]) := Lib.hid (by rw [← hwb]; exact Blk.new _ _ _)
            have hN2B : wy.heap.size ≤ wa.heap.size := hwa0
            replace hwa0 : wy.heap.size ≤ wb.heap.size := Nat.le_trans hwa0 hal.size
            replace HI := Lib.hid (HI.out.keep hal)
            refine hK.out _ _ (fun _ => ⟨HI.out.y.cell 2, HI.out.y.cell 3⟩) ?_
            clear hK K
            try simp only [Act.put, List.setIfInBounds_toArray, List.set_cons_zero, List.set_cons_succ]
            generalize wa.heap.size = gN2B at *
            clear hwb hal wa
            rename World => wa
            refine wpAnyL_ready (rs := [3]) (by kernel_rfl) (by simp) ?_
            refine AllL.cons rfl (fun K hK => ?_) AllL.nil
            rw [if_pos (by rfl)]
            go_simp
            generalize hwb : World.alloc _ _ = wb
            have hal : Below wa.heap.size wa wb := by rw [← hwb]; exact (Below.refl _ _).alloc (Nat.le_refl _) _
            have N1B : Hid (Blk wb wa.heap.size 59 #[.slice N1 ns.length e1]) := Lib.hid (by rw [← hwb]; exact Blk.new _ _ _)
            have hN1B : wy.heap.size ≤ wa.heap.size := hwa0
            replace hwa0 : wy.heap.size ≤ wb.heap.size := Nat.le_trans hwa0 hal.size
            replace HI := Lib.hid (HI.out.keep hal)
            refine hK.out _ _ (fun _ => ⟨HI.out.y.cell 2, HI.out.y.cell 3⟩) ?_
            clear hK K
            try simp only [Act.put, List.setIfInBounds_toArray, List.set_cons_zero, List.set_cons_succ]
            replace N2B := Lib.hid (N2B.out.keep hal)
            generalize wa.heap.size = gN1B at *
            clear hwb hal wa
            rename World => wa
            refine wpAnyL_ready (rs := [4]) (by kernel_rfl) (by simp) ?_
            refine AllL.cons rfl (fun K hK => ?_) AllL.nil
            rw [if_pos (by rfl)]
            obtain ⟨v7, w7, hrun7, hn7, hg7, hl7, hb7, hbad7⟩ := own_app (P := Try.prog) 22 22 59 3 Try.underlying22 infoR (by decide) N1B.out HI.out.u.n rfl (own_mono HI.out.p.rowN hbs) hnl (Nat.le_trans hsz hwa0)
            generalize nx ++ [ns] = nx7 at hn7 HX
            obtain ⟨A3, d3, rfl⟩ := hn7.slice
            refine wp_app_run (.tmp 122) (.tmp 124) 22 rfl hrun7 ?_
            replace hwa0 : wy.heap.size ≤ w7.heap.size := Nat.le_trans hwa0 hg7.size
            replace N2B := Lib.hid (N2B.out.grown hg7 (fun e => by have := HLT.out _ e.symm; omega))
            replace HI := Lib.hid (HI.out.appN hn7 hg7 hl7 hb7 hbad7)
            refine hK.out _ _ (fun _ => ⟨HI.out.y.cell 2, HI.out.y.cell 3⟩) ?_
            clear hK K hrun7
            try simp only [Act.put, List.setIfInBounds_toArray, List.set_cons_zero, List.set_cons_succ]
            clear hn7 hg7 hl7 hb7 hbad7 N1B wa
            rename World => wa
            refine takeL (i := 10) (d := some 131) (v := ?_) rfl rfl (by kernel_rfl) (by kernel_rfl) (by kernel_rfl) (by kernel_rfl) (by kernel_rfl) (fun _ _ _ h => h) (Or.inl ⟨by rfl, ?_⟩) ⟨HI.out.y.cell 2, HI.out.y.cell 3⟩ ?_
            rotate_left
            · intro wx hSx; clear hSx; first | (go_simp; done) | (go_simp; with_reducible rfl)
            simp only [Act.put, List.setIfInBounds_toArray, List.set_cons_zero, List.set_cons_succ]
            refine wpAnyL_ready (rs := [9]) (by kernel_rfl) (by simp) ?_
            refine AllL.cons rfl (fun K hK => ?_) AllL.nil
            rw [if_pos (by rfl)]
            obtain ⟨v7, w7, hrun7, hn7, hg7, hl7, hb7, hbad7⟩ := own_app (P := Try.prog) 22 22 59 3 Try.underlying22 infoR (by decide) N2B.out HI.out.u.o rfl (own_mono HI.out.p.rowO hbs) hol (Nat.le_trans hsz hwa0)
            generalize out ++ [os] = out7 at hn7 HX
            obtain ⟨A4, d4, rfl⟩ := hn7.slice
            refine wp_app_run (.tmp 127) (.tmp 129) 22 rfl hrun7 ?_
            replace hwa0 : wy.heap.size ≤ w7.heap.size := Nat.le_trans hwa0 hg7.size
            replace HI := Lib.hid (HI.out.appO hn7 hg7 hl7 hb7 hbad7)
            refine hK.out _ _ (fun _ => ⟨HI.out.y.cell 2, HI.out.y.cell 3⟩) ?_
            clear hK K hrun7
            try simp only [Act.put, List.setIfInBounds_toArray, List.set_cons_zero, List.set_cons_succ]
            clear hn7 hg7 hl7 hb7 hbad7 N2B wa
            rename World => wa
            refine wpAnyL_ready (rs := [11]) (by kernel_rfl) (by simp) ?_
            refine AllL.cons rfl (fun K hK => ?_) AllL.nil
            rw [if_pos (by rfl)]
            have y2 := HI.out.y.cell 2
            have f2 := HI.out.y.frozen 2
            go_simp
            refine hK.out _ _ (fun h => absurd (show true = false from h 11 (by simp)) (by decide)) ?_
            clear hK K y2 f2
            try simp only [Act.put]
            generalize hwb : World.setCell _ _ _ = wb
            replace HI := Lib.hid (HI.out.set2 hp6 (.slice A3 nx7.length d3))
            rw [hwb] at HI
            clear hwb hwa0 wa
            have hwa0 : True := trivial
            rename World => wa
            refine wpAnyL_ready (rs := [12]) (by kernel_rfl) (by simp) ?_
            refine AllL.cons rfl (fun K hK => ?_) AllL.nil
            rw [if_pos (by rfl)]
            go_simp
            refine hK.out _ _ (fun h => absurd (show true = false from h 11 (by simp)) (by decide)) ?_
            clear hK K
            try simp only [Act.put, List.setIfInBounds_toArray, List.set_cons_zero, List.set_cons_succ]
            refine wpAnyL_ready (rs := [13]) (by kernel_rfl) (by simp) ?_
            refine AllL.cons rfl (fun K hK => ?_) AllL.nil
            rw [if_pos (by rfl)]
            have y2 := HI.out.y.cell 3
            have f2 := HI.out.y.frozen 3
            go_simp
            refine hK.out _ _ (fun h => absurd (show true = false from h 11 (by simp)) (by decide)) ?_
            clear hK K y2 f2
            try simp only [Act.put]
            generalize hwb : World.setCell _ _ _ = wb
            replace HI := Lib.hid (HI.out.set3 hp6 (.slice A4 out7.length d4))
            rw [hwb] at HI
            clear hwb hwa0 wa
            have hwa0 : True := trivial
            rename World => wa
            refine wpAnyL_done (by kernel_rfl) ?_ _
            go_wp2_with fail
            go_roundw
            case rel => exact ⟨j + 1, q2, _, _, nx7, out7, by go_num, Lib.hid HI.out.n, Lib.hid HI.out.o, Lib.hid HI.out.u, Lib.hid HI.out.y, HX, Lib.hid HI.out.b⟩
            case measure => simp [intOf] <;> omega
      have hx' : (x : Int) < (nn : Int) := by omega
      have hxk : x < k + T := by have := HNN.out; omega
      obtain ⟨ad, rfl, hcell⟩ := (OwnL.rd pcl_len HO.out (by omega)).2.at_ HW.out.at_
      have HCL := Lib.hid (RdL.whole (w := wy) (ad := ad) (i := j) (x := cc) (el := pcl) (size := 5) hcell)
      clear hcell
      go_upto_region 17 with fail
      clear hx'
      go_cut [15, 16, 17] (fun p cd b wx => ∃ k6, p = .pointer (some ⟨k6, 0, none⟩) ∧ cd = .int .i64 (resN m k cc x) ∧ b = .bool (Tm.poss k cc x) ∧ Blk wx k6 66 (pc (resC m k cc x)) ∧ Below wy.heap.size wy wx)
      case first =>
        refine wp_region_held_drew (S := fun wx => Below wy.heap.size wy wx) (by kernel_rfl) ((Below.refl _ _).drew) (fun hS => ?_)
        refine takeH (i := 0) (d := some 61) (v := .agg #[.int .i64 m.I, .int .i64 m.T, .int .i64 m.S, .slice A m.nx.length c, .slice B m.out.length d, .slice C m.set.length e]) rfl rfl (by kernel_rfl) (by kernel_rfl) (by kernel_rfl) (fun _ _ _ h => h) (yieldsIf_load_any (by rfl) 25 _ rfl ⟨w.heap.size, 0, none⟩ rfl [.int .i64 m.I, .int .i64 m.T, .int .i64 m.S, .slice A m.nx.length c, .slice B m.out.length d, .slice C m.set.length e] _ (fun wx hSx => ((HC0.out wx (HB.out.trans (Below.mono hSx hsz))).part 0 _ rfl)) Try.underlying25 rfl (by kernel_rfl)) hS ?_
        simp only [Act.put, List.setIfInBounds_toArray, List.set_cons_zero, List.set_cons_succ]
        refine takeH (i := 1) (d := some 62) (v := ?_) rfl rfl (by kernel_rfl) (by kernel_rfl) (by kernel_rfl) (fun _ _ _ h => h) (Or.inl ⟨by rfl, ?_⟩) hS ?_
        rotate_left
        · intro wx hSx; clear hSx; first | (go_simp; done) | (go_simp; with_reducible rfl)
        simp only [Act.put, List.setIfInBounds_toArray, List.set_cons_zero, List.set_cons_succ]
        refine takeH (i := 2) (d := some 63) (v := ?_) rfl rfl (by kernel_rfl) (by kernel_rfl) (by kernel_rfl) (fun _ _ _ h => h) (Or.inl ⟨by rfl, ?_⟩) hS ?_
        rotate_left
        · intro wx hSx; clear hSx; first | (go_simp; done) | (go_simp; with_reducible rfl)
        simp only [Act.put, List.setIfInBounds_toArray, List.set_cons_zero, List.set_cons_succ]
        refine takeH (i := 3) (d := some 64) (v := ?_) rfl rfl (by kernel_rfl) (by kernel_rfl) (by kernel_rfl) (fun _ _ _ h => h) (Or.inl ⟨by rfl, ?_⟩) hS ?_
        rotate_left
        · intro wx hSx; clear hSx; first | (go_simp; done) | (go_simp; with_reducible rfl)
        simp only [Act.put, List.setIfInBounds_toArray, List.set_cons_zero, List.set_cons_succ]
        refine takeH (i := 4) (d := some 65) (v := .agg (pc cc)) rfl rfl (by kernel_rfl) (by kernel_rfl) (by kernel_rfl) (fun _ _ _ h => h) (yieldsIf_load_any (by rfl) 66 _ rfl (ad.add (j * 5)) rfl (pc cc).toList _ (fun wx hSx => (fun jj u hu => keep_cell hSx (HCL.out jj u hu))) Try.underlying66 rfl (by kernel_rfl)) hS ?_
        simp only [Act.put, List.setIfInBounds_toArray, List.set_cons_zero, List.set_cons_succ]
        refine takeH (i := 5) (d := some 66) (v := ?_) rfl rfl (by kernel_rfl) (by kernel_rfl) (by kernel_rfl) (fun _ _ _ h => h) (Or.inl ⟨by rfl, ?_⟩) hS ?_
        rotate_left
        · intro wx hSx; clear hSx; first | (go_simp; done) | (go_simp; with_reducible rfl)
        simp only [Act.put, List.setIfInBounds_toArray, List.set_cons_zero, List.set_cons_succ]
        generalize hwa : World.drew _ = wa at hS ⊢
        clear hwa
        have HSa := Lib.hid hS
        clear hS
        refine wpAnyH_ready (rs := [6, 11]) (by kernel_rfl) (by simp) ?_
        refine AllReadyH.cons rfl (fun K hK => ?_) (AllReadyH.cons rfl (fun K hK => ?_) AllReadyH.nil)
        · skip
          rw [if_pos (by rfl)]
          try go_simp
          refine (after_p m k T S cc x A B C c d e wa HM.out HOK.out hxk (HT.out.keep (below_seq HB.out HSa.out))).mono ?_
          rintro r wv ⟨rfl, hb⟩
          refine hK.out _ _ (below_seq HSa.out hb) (fun hS2 => ?_)
          clear hK K
          try simp only [Act.put, List.setIfInBounds_toArray, List.set_cons_zero, List.set_cons_succ]
          replace HSa := Lib.hid hS2
          clear hS2 hb wa
          rename World => wa
          refine takeH (i := 7) (d := some 60) (v := ?_) rfl rfl (by kernel_rfl) (by kernel_rfl) (by kernel_rfl) (fun _ _ _ h => h) (Or.inl ⟨by rfl, ?_⟩) HSa.out ?_
          rotate_left
          · intro wx hSx; clear hSx; first | (go_simp; done) | (go_simp; with_reducible rfl)
          simp only [Act.put, List.setIfInBounds_toArray, List.set_cons_zero, List.set_cons_succ]
          refine takeH (i := 8) (d := some 68) (v := ?_) rfl rfl (by kernel_rfl) (by kernel_rfl) (by kernel_rfl) (fun _ _ _ h => h) (Or.inl ⟨by rfl, ?_⟩) HSa.out ?_
          rotate_left
          · intro wx hSx; clear hSx; first | (go_simp; done) | (go_simp; with_reducible rfl)
          simp only [Act.put, List.setIfInBounds_toArray, List.set_cons_zero, List.set_cons_succ]
          refine takeH (i := 9) (d := some 69) (v := ?_) rfl rfl (by kernel_rfl) (by kernel_rfl) (by kernel_rfl) (fun _ _ _ h => h) (Or.inl ⟨by rfl, ?_⟩) HSa.out ?_
          rotate_left
          · intro wx hSx; clear hSx; first | (go_simp; done) | (go_simp; with_reducible rfl)
          simp only [Act.put, List.setIfInBounds_toArray, List.set_cons_zero, List.set_cons_succ]
          refine takeH (i := 10) (d := some 70) (v := ?_) rfl rfl (by kernel_rfl) (by kernel_rfl) (by kernel_rfl) (fun _ _ _ h => h) (Or.inl ⟨by rfl, ?_⟩) HSa.out ?_
          rotate_left
          · intro wx hSx; clear hSx; first | (go_simp; done) | (go_simp; with_reducible rfl)
          simp only [Act.put, List.setIfInBounds_toArray, List.set_cons_zero, List.set_cons_succ]
          refine wpAnyH_ready (rs := [11]) (by kernel_rfl) (by simp) ?_
          refine AllReadyH.cons rfl (fun K hK => ?_) AllReadyH.nil
          rw [if_pos (by rfl)]
          go_simp
          refine hK.out _ _ (Below.alloc HSa.out HSa.out.size _) (fun hS2 => ?_)
          clear hK K
          try simp only [Act.put, List.setIfInBounds_toArray, List.set_cons_zero, List.set_cons_succ]
          generalize hwb : World.alloc _ _ = wb at hS2 ⊢
          have K6 : Hid (Blk wb wa.heap.size 66 #[.int .i64 0, .bool false, .bool false, .bool false, .bool false]) := Lib.hid (by rw [← hwb]; exact Blk.new _ _ _)
          have hgeK6 : wy.heap.size ≤ wa.heap.size := HSa.out.size
          replace HSa := Lib.hid hS2
          generalize wa.heap.size = kK6 at *
          clear hS2 hwb
          rename World => wa
          refine wpAnyH_ready (rs := [12]) (by kernel_rfl) (by simp) ?_
          refine AllReadyH.cons rfl (fun K hK => ?_) AllReadyH.nil
          rw [if_pos (by rfl)]
          refine wp_store_row 66 _ _ rfl kK6 (pc (resC m k cc x)) rfl rfl 66 _ K6.out (by kernel_rfl) rfl (pc_one _) ?_
          refine hK.out _ _ (below_row HSa.out hgeK6 _) (fun hS2 => ?_)
          clear hK K
          change wpAnyH _ _ _ _ _ _ _ (Act.put _ none _) _
          try simp only [Act.put]
          generalize hwb : World.setRow _ _ _ = wb at hS2 ⊢
          replace K6 := Lib.hid (show Blk wb _ _ (pc (resC m k cc x)) by rw [← hwb]; exact set_row_blk K6.out)
          replace HSa := Lib.hid hS2
          clear hS2 hwb wa
          rename World => wa
          refine takeH (i := 13) (d := some 16) (v := ?_) rfl rfl (by kernel_rfl) (by kernel_rfl) (by kernel_rfl) (fun _ _ _ h => h) (Or.inl ⟨by rfl, ?_⟩) HSa.out ?_
          rotate_left
          · intro wx hSx; clear hSx; first | (go_simp; done) | (go_simp; with_reducible rfl)
          simp only [Act.put, List.setIfInBounds_toArray, List.set_cons_zero, List.set_cons_succ]
          refine takeH (i := 14) (d := some 17) (v := ?_) rfl rfl (by kernel_rfl) (by kernel_rfl) (by kernel_rfl) (fun _ _ _ h => h) (Or.inl ⟨by rfl, ?_⟩) HSa.out ?_
          rotate_left
          · intro wx hSx; clear hSx; first | (go_simp; done) | (go_simp; with_reducible rfl)
          simp only [Act.put, List.setIfInBounds_toArray, List.set_cons_zero, List.set_cons_succ]
          refine wpAnyH_done (by kernel_rfl) ?_ _
          go_wp2_with fail
          go_meet
          exact ⟨kK6, rfl, rfl, rfl, K6.out, HSa.out⟩
        · skip
          rw [if_pos (by rfl)]
          go_simp
          refine hK.out _ _ (Below.alloc HSa.out HSa.out.size _) (fun hS2 => ?_)
          clear hK K
          try simp only [Act.put, List.setIfInBounds_toArray, List.set_cons_zero, List.set_cons_succ]
          generalize hwb : World.alloc _ _ = wb at hS2 ⊢
          have K6 : Hid (Blk wb wa.heap.size 66 #[.int .i64 0, .bool false, .bool false, .bool false, .bool false]) := Lib.hid (by rw [← hwb]; exact Blk.new _ _ _)
          have hgeK6 : wy.heap.size ≤ wa.heap.size := HSa.out.size
          replace HSa := Lib.hid hS2
          generalize wa.heap.size = kK6 at *
          clear hS2 hwb
          rename World => wa
          refine wpAnyH_ready (rs := [6]) (by kernel_rfl) (by simp) ?_
          refine AllReadyH.cons rfl (fun K hK => ?_) AllReadyH.nil
          rw [if_pos (by rfl)]
          try go_simp
          refine (after_p m k T S cc x A B C c d e wa HM.out HOK.out hxk (HT.out.keep (below_seq HB.out HSa.out))).mono ?_
          rintro r wv ⟨rfl, hb⟩
          refine hK.out _ _ (below_seq HSa.out hb) (fun hS2 => ?_)
          clear hK K
          try simp only [Act.put, List.setIfInBounds_toArray, List.set_cons_zero, List.set_cons_succ]
          replace K6 := Lib.hid (K6.out.keep hb)
          replace HSa := Lib.hid hS2
          clear hS2 hb wa
          rename World => wa
          refine takeH (i := 7) (d := some 60) (v := ?_) rfl rfl (by kernel_rfl) (by kernel_rfl) (by kernel_rfl) (fun _ _ _ h => h) (Or.inl ⟨by rfl, ?_⟩) HSa.out ?_
          rotate_left
          · intro wx hSx; clear hSx; first | (go_simp; done) | (go_simp; with_reducible rfl)
          simp only [Act.put, List.setIfInBounds_toArray, List.set_cons_zero, List.set_cons_succ]
          refine takeH (i := 8) (d := some 68) (v := ?_) rfl rfl (by kernel_rfl) (by kernel_rfl) (by kernel_rfl) (fun _ _ _ h => h) (Or.inl ⟨by rfl, ?_⟩) HSa.out ?_
          rotate_left
          · intro wx hSx; clear hSx; first | (go_simp; done) | (go_simp; with_reducible rfl)
          simp only [Act.put, List.setIfInBounds_toArray, List.set_cons_zero, List.set_cons_succ]
          refine takeH (i := 9) (d := some 69) (v := ?_) rfl rfl (by kernel_rfl) (by kernel_rfl) (by kernel_rfl) (fun _ _ _ h => h) (Or.inl ⟨by rfl, ?_⟩) HSa.out ?_
          rotate_left
          · intro wx hSx; clear hSx; first | (go_simp; done) | (go_simp; with_reducible rfl)
          simp only [Act.put, List.setIfInBounds_toArray, List.set_cons_zero, List.set_cons_succ]
          refine takeH (i := 10) (d := some 70) (v := ?_) rfl rfl (by kernel_rfl) (by kernel_rfl) (by kernel_rfl) (fun _ _ _ h => h) (Or.inl ⟨by rfl, ?_⟩) HSa.out ?_
          rotate_left
          · intro wx hSx; clear hSx; first | (go_simp; done) | (go_simp; with_reducible rfl)
          simp only [Act.put, List.setIfInBounds_toArray, List.set_cons_zero, List.set_cons_succ]
          refine wpAnyH_ready (rs := [12]) (by kernel_rfl) (by simp) ?_
          refine AllReadyH.cons rfl (fun K hK => ?_) AllReadyH.nil
          rw [if_pos (by rfl)]
          refine wp_store_row 66 _ _ rfl kK6 (pc (resC m k cc x)) rfl rfl 66 _ K6.out (by kernel_rfl) rfl (pc_one _) ?_
          refine hK.out _ _ (below_row HSa.out hgeK6 _) (fun hS2 => ?_)
          clear hK K
          change wpAnyH _ _ _ _ _ _ _ (Act.put _ none _) _
          try simp only [Act.put]
          generalize hwb : World.setRow _ _ _ = wb at hS2 ⊢
          replace K6 := Lib.hid (show Blk wb _ _ (pc (resC m k cc x)) by rw [← hwb]; exact set_row_blk K6.out)
          replace HSa := Lib.hid hS2
          clear hS2 hwb wa
          rename World => wa
          refine takeH (i := 13) (d := some 16) (v := ?_) rfl rfl (by kernel_rfl) (by kernel_rfl) (by kernel_rfl) (fun _ _ _ h => h) (Or.inl ⟨by rfl, ?_⟩) HSa.out ?_
          rotate_left
          · intro wx hSx; clear hSx; first | (go_simp; done) | (go_simp; with_reducible rfl)
          simp only [Act.put, List.setIfInBounds_toArray, List.set_cons_zero, List.set_cons_succ]
          refine takeH (i := 14) (d := some 17) (v := ?_) rfl rfl (by kernel_rfl) (by kernel_rfl) (by kernel_rfl) (fun _ _ _ h => h) (Or.inl ⟨by rfl, ?_⟩) HSa.out ?_
          rotate_left
          · intro wx hSx; clear hSx; first | (go_simp; done) | (go_simp; with_reducible rfl)
          simp only [Act.put, List.setIfInBounds_toArray, List.set_cons_zero, List.set_cons_succ]
          refine wpAnyH_done (by kernel_rfl) ?_ _
          go_wp2_with fail
          go_meet
          exact ⟨kK6, rfl, rfl, rfl, K6.out, HSa.out⟩
      case rest =>
      obtain ⟨k6, rfl, rfl, rfl, hk6, hbx⟩ := hcut
      rename World => wu
      try apply_assumption
      replace HO := Lib.hid (own_keep HO.out hbx)
      replace HN := Lib.hid (HN.out.keep hbx)
      replace HP := Lib.hid (HP.out.keep hbx)
      replace HK := Lib.hid (HK.out.trans (Kt.below hbx))
      replace HCL := Lib.hid (fun jj u hu => keep_cell hbx (HCL.out jj u hu))
      replace HB := Lib.hid (below_seq HB.out hbx)
      replace hsz : w1.heap.size ≤ wu.heap.size := HB.out.size
      replace hbr : wr.heap.size ≤ wu.heap.size := HK.out.size
      have K6 := Lib.hid hk6
      have hq6 : ns.length ≤ 1099511627776 := by have := HW.out.ln; omega
      have ho6 : os.length ≤ 1099511627776 := by have := HW.out.ln; have := HW.out.row.len; omega
      clear hk6 hbx wy
      cases hp : Tm.poss k cc x with
      | false =>
        have HW2 := Lib.hid (HW.out.no hxk hp)
        have hcr : resC m k cc x = cc := (res_no hp).1
        rw [hcr] at K6
        have hz : (zeroValue 3).run Try.prog wu = .ok (.int .i64 0) wu := by rfl
        obtain ⟨v0, hlook, hv0⟩ := HN.out.at_ HOK.out h128 hz
        have hmem : cc ∈ q2 := List.mem_of_getElem? HW.out.at_
        obtain rfl : v0 = (j : Int) := by rw [hv0 hmem, Tm.idx_of_get HW.out.good.nd HW.out.at_]
        rw [decide_eq_true hmem] at hlook
        clear hz hv0 hmem hcr hp
        go_upto_region 30 with (first | (refine wpList_load_row rfl 66 _ rfl k6 rfl 66 (pc cc) (0, 0) _ K6.out Try.underlying66 rfl (by kernel_rfl) ?_))
        clear hlook
        go_wp2_with (first | (at_builtin; refine appL elI_len (by decide) rfl (.tmp 116) (.tmp 118) 59 3 _ _ rfl Try.underlying59 infoI rfl (by decide) (y := (0 : Int)) rfl rfl rfl rfl HP2.out.o elI_one ho6 hbs5 ?_; intro v6 w6 ho6' hg6 hl6 hbb6 _) | (at_builtin; refine appL elI_len (by decide) rfl (.tmp 112) (.tmp 114) 59 3 _ _ rfl Try.underlying59 infoI rfl (by decide) (y := (j : Int)) rfl rfl rfl rfl HP.out.n elI_one hq6 hbr ?_; intro v5 w5 ho5 hg5 hl5 hbb5 hbs5; have HP2 := Lib.hid (HP.out.pushN ho5 hg5 hl5)))
        have hk1 := app_kt HP.out.n hg5
        have hk2 := app_kt HP2.out.o hg6
        have HP3 := Lib.hid (HP2.out.pushO ho6' hg6 hl6)
        replace HO := Lib.hid (own_kt (own_kt HO.out hk1 (isT_ne (by decide))) hk2 (isT_ne (by decide)))
        replace HN := Lib.hid (seen_kt (seen_kt HN.out hk1 map_notT) hk2 map_notT)
        replace HK := Lib.hid ((HK.out.far (hbb5 wr.heap.size _ (Nat.le_refl _) (Below.refl _ _))).far (hbb6 wr.heap.size _ (Nat.le_refl _) (Below.refl _ _)))
        replace HB := Lib.hid (hbb6 w1.heap.size w1 hbs (hbb5 w1.heap.size w1 hbs HB.out))
        clear hk1 hk2 ho5 hg5 hl5 hbb5 ho6' hg6 hl6 hbb6 HP2 HP
        go_wp2_with fail
        go_roundw
        case rel => exact ⟨x + 1, q2, _, _, by omega, by go_num, HN, HO, HP3, HW2, HK, HB⟩
        case measure => simp [intOf] <;> omega
      | true =>
        have HPS := Lib.hid hp
        have hcr : resC m k cc x = (Tm.aftC m k cc x) ∧ resN m k cc x = Tm.aftN m k cc x - 1 := by unfold resC resN; rw [if_pos hp, if_pos hp]; exact ⟨rfl, rfl⟩
        rw [hcr.1] at K6
        rw [hcr.2]
        have HAB := Lib.hid (Tm.aftN_bd HM.out HOK.out hxk)
        have HUB := Lib.hid (Tm.uO_0 HM.out HOK.out hxk)
        have HOA := Lib.hid (Tm.aft_ok HM.out HOK.out hxk)
        have hs := HOK.out.1
        obtain ⟨od, O1, oc, os', rfl, ho, co, ro⟩ := HT.out.out.at_ (i := cc.1) (by rw [HM.out.o]; exact hs)
        have hol : x < os'.length := by rw [← ho, HM.out.rowO _ hs]; exact hxk
        obtain ⟨od1, o, rfl, hoo, ct⟩ := ro.at_ hol
        have hcell := HM.out.cell cc.1 x hs hxk
        rw [ho, hoo] at hcell
        have ho0 := hcell.o0
        have ho1 := hcell.o1
        have hUO : Tm.uO m k T cc x = 2 + o * (1 + (T : Int) * 1001) + (Tm.aftN m k cc x - 1) := by unfold Tm.uO Tm.outA; rw [ho, hoo]; omega
        rw [← HSC.out] at hUO
        have hsc0 : 0 ≤ sc := by have := HSC.out; omega
        have hsc1 : sc ≤ 4005 := by have := HSC.out; omega
        have hm0 : 0 ≤ o * sc := Int.mul_nonneg ho0 hsc0
        have hm1 : o * sc ≤ 4199546880 := Int.le_trans (Int.mul_le_mul_of_nonneg_right ho1 hsc0) (by omega)
        have mo := HT.out.out.1
        have mo1 := ro.1
        have hcs : (cc.1 : Int) < (m.out.length : Int) := by rw [HM.out.o]; omega
        have hxo : (x : Int) < (os'.length : Int) := by omega
        replace co := keep_cell HB.out co
        replace ct := keep_cell HB.out ct
        have b4 := keep_cell HB.out HC4.out
        have bq : wu.cell? (ad.add (j * 5)) = some (.int .i64 (cc.1 : Nat)) := by have := HCL.out 0 _ rfl; rw [ad_zero] at this; exact this
        have hab := HAB.out
        obtain ⟨rn, hrn⟩ : ∃ rn, rn = Tm.aftN m k cc x - 1 := ⟨_, rfl⟩
        rw [← hrn] at hUO ⊢
        have hrb : -1 ≤ rn ∧ rn ≤ 4004 := by omega
        obtain ⟨uo, huo⟩ : ∃ uo, uo = Tm.uO m k T cc x := ⟨_, rfl⟩
        have HUO := Lib.hid huo
        rw [← huo] at hUO HUB
        clear hcell ho hoo ro hrn huo hs hol hab hcr hp hsc0 hsc1
        go_upto_region 20 with fail
        go_cut [18] (fun v wz => v = .int .i64 uo ∧ Below wu.heap.size wu wz)
        case first =>
          refine wp_region_held_drew (S := fun wx => Below wu.heap.size wu wx) (by kernel_rfl) ((Below.refl _ _).drew) (fun hS => ?_)
          refine takeH (i := 0) (d := some 72) (v := ?_) rfl rfl (by kernel_rfl) (by kernel_rfl) (by kernel_rfl) (fun _ _ _ h => h) (Or.inl ⟨by rfl, ?_⟩) hS ?_
          rotate_left
          · intro wx hSx; clear hSx; first | (go_simp; done) | (go_simp; with_reducible rfl)
          simp only [Act.put, List.setIfInBounds_toArray, List.set_cons_zero, List.set_cons_succ]
          refine takeH (i := 1) (d := some 73) (v := ?_) rfl rfl (by kernel_rfl) (by kernel_rfl) (by kernel_rfl) (fun _ _ _ h => h) (Or.inl ⟨by rfl, ?_⟩) hS ?_
          rotate_left
          · intro wx hSx; have hSy : Below wu.heap.size wu wx := hSx; have e0 := keep_cell hSy b4; have e1 := keep_cell hSy bq; have e2 := keep_cell hSy co; have e3 := keep_cell hSy ct; clear hSy hSx; first | (go_simp; done) | (go_simp; with_reducible rfl)
          simp only [Act.put, List.setIfInBounds_toArray, List.set_cons_zero, List.set_cons_succ]
          refine takeH (i := 2) (d := some 74) (v := ?_) rfl rfl (by kernel_rfl) (by kernel_rfl) (by kernel_rfl) (fun _ _ _ h => h) (Or.inl ⟨by rfl, ?_⟩) hS ?_
          rotate_left
          · intro wx hSx; clear hSx; first | (go_simp; done) | (go_simp; with_reducible rfl)
          simp only [Act.put, List.setIfInBounds_toArray, List.set_cons_zero, List.set_cons_succ]
          refine takeH (i := 3) (d := some 75) (v := ?_) rfl rfl (by kernel_rfl) (by kernel_rfl) (by kernel_rfl) (fun _ _ _ h => h) (Or.inl ⟨by rfl, ?_⟩) hS ?_
          rotate_left
          · intro wx hSx; clear hSx; first | (go_simp; done) | (go_simp; with_reducible rfl)
          simp only [Act.put, List.setIfInBounds_toArray, List.set_cons_zero, List.set_cons_succ]
          refine takeH (i := 4) (d := some 76) (v := ?_) rfl rfl (by kernel_rfl) (by kernel_rfl) (by kernel_rfl) (fun _ _ _ h => h) (Or.inl ⟨by rfl, ?_⟩) hS ?_
          rotate_left
          · intro wx hSx; clear hSx; first | (go_simp; done) | (go_simp; with_reducible rfl)
          simp only [Act.put, List.setIfInBounds_toArray, List.set_cons_zero, List.set_cons_succ]
          refine takeH (i := 5) (d := some 77) (v := ?_) rfl rfl (by kernel_rfl) (by kernel_rfl) (by kernel_rfl) (fun _ _ _ h => h) (Or.inl ⟨by rfl, ?_⟩) hS ?_
          rotate_left
          · intro wx hSx; clear hSx; first | (go_simp; done) | (go_simp; with_reducible rfl)
          simp only [Act.put, List.setIfInBounds_toArray, List.set_cons_zero, List.set_cons_succ]
          refine takeH (i := 6) (d := some 78) (v := ?_) rfl rfl (by kernel_rfl) (by kernel_rfl) (by kernel_rfl) (fun _ _ _ h => h) (Or.inl ⟨by rfl, ?_⟩) hS ?_
          rotate_left
          · intro wx hSx; have hSy : Below wu.heap.size wu wx := hSx; have e0 := keep_cell hSy b4; have e1 := keep_cell hSy bq; have e2 := keep_cell hSy co; have e3 := keep_cell hSy ct; clear hSy hSx; first | (go_simp; done) | (go_simp; with_reducible rfl)
          simp only [Act.put, List.setIfInBounds_toArray, List.set_cons_zero, List.set_cons_succ]
          refine takeH (i := 7) (d := some 79) (v := ?_) rfl rfl (by kernel_rfl) (by kernel_rfl) (by kernel_rfl) (fun _ _ _ h => h) (Or.inl ⟨by rfl, ?_⟩) hS ?_
          rotate_left
          · intro wx hSx; clear hSx; first | (go_simp; done) | (go_simp; with_reducible rfl)
          simp only [Act.put, List.setIfInBounds_toArray, List.set_cons_zero, List.set_cons_succ]
          refine takeH (i := 8) (d := some 80) (v := ?_) rfl rfl (by kernel_rfl) (by kernel_rfl) (by kernel_rfl) (fun _ _ _ h => h) (Or.inl ⟨by rfl, ?_⟩) hS ?_
          rotate_left
          · intro wx hSx; have hSy : Below wu.heap.size wu wx := hSx; have e0 := keep_cell hSy b4; have e1 := keep_cell hSy bq; have e2 := keep_cell hSy co; have e3 := keep_cell hSy ct; clear hSy hSx; first | (go_simp; done) | (go_simp; with_reducible rfl)
          simp only [Act.put, List.setIfInBounds_toArray, List.set_cons_zero, List.set_cons_succ]
          refine takeH (i := 9) (d := some 81) (v := ?_) rfl rfl (by kernel_rfl) (by kernel_rfl) (by kernel_rfl) (fun _ _ _ h => h) (Or.inl ⟨by rfl, ?_⟩) hS ?_
          rotate_left
          · intro wx hSx; clear hSx; first | (go_simp; done) | (go_simp; with_reducible rfl)
          simp only [Act.put, List.setIfInBounds_toArray, List.set_cons_zero, List.set_cons_succ]
          refine takeH (i := 10) (d := some 82) (v := ?_) rfl rfl (by kernel_rfl) (by kernel_rfl) (by kernel_rfl) (fun _ _ _ h => h) (Or.inl ⟨by rfl, ?_⟩) hS ?_
          rotate_left
          · intro wx hSx; clear hSx; first | (go_simp; done) | (go_simp; with_reducible rfl)
          simp only [Act.put, List.setIfInBounds_toArray, List.set_cons_zero, List.set_cons_succ]
          refine takeH (i := 11) (d := some 83) (v := ?_) rfl rfl (by kernel_rfl) (by kernel_rfl) (by kernel_rfl) (fun _ _ _ h => h) (Or.inl ⟨by rfl, ?_⟩) hS ?_
          rotate_left
          · intro wx hSx; have hSy : Below wu.heap.size wu wx := hSx; have e0 := keep_cell hSy b4; have e1 := keep_cell hSy bq; have e2 := keep_cell hSy co; have e3 := keep_cell hSy ct; clear hSy hSx; first | (go_simp; done) | (go_simp; with_reducible rfl)
          simp only [Act.put, List.setIfInBounds_toArray, List.set_cons_zero, List.set_cons_succ]
          refine takeH (i := 12) (d := some 84) (v := ?_) rfl rfl (by kernel_rfl) (by kernel_rfl) (by kernel_rfl) (fun _ _ _ h => h) (Or.inl ⟨by rfl, ?_⟩) hS ?_
          rotate_left
          · intro wx hSx; clear hSx; first | (go_simp; done) | (go_simp; with_reducible rfl)
          simp only [Act.put, List.setIfInBounds_toArray, List.set_cons_zero, List.set_cons_succ]
          refine takeH (i := 13) (d := some 85) (v := ?_) rfl rfl (by kernel_rfl) (by kernel_rfl) (by kernel_rfl) (fun _ _ _ h => h) (Or.inl ⟨by rfl, ?_⟩) hS ?_
          rotate_left
          · intro wx hSx; clear hSx; first | (go_simp; done) | (go_simp; with_reducible rfl)
          simp only [Act.put, List.setIfInBounds_toArray, List.set_cons_zero, List.set_cons_succ]
          refine takeH (i := 14) (d := some 86) (v := ?_) rfl rfl (by kernel_rfl) (by kernel_rfl) (by kernel_rfl) (fun _ _ _ h => h) (Or.inl ⟨by rfl, ?_⟩) hS ?_
          rotate_left
          · intro wx hSx; clear hSx; first | (go_simp; done) | (go_simp; with_reducible rfl)
          simp only [Act.put, List.setIfInBounds_toArray, List.set_cons_zero, List.set_cons_succ]
          refine takeH (i := 15) (d := some 87) (v := ?_) rfl rfl (by kernel_rfl) (by kernel_rfl) (by kernel_rfl) (fun _ _ _ h => h) (Or.inl ⟨by rfl, ?_⟩) hS ?_
          rotate_left
          · intro wx hSx; clear hSx; first | (go_simp; done) | (go_simp; with_reducible rfl)
          simp only [Act.put, List.setIfInBounds_toArray, List.set_cons_zero, List.set_cons_succ]
          refine takeH (i := 16) (d := some 88) (v := ?_) rfl rfl (by kernel_rfl) (by kernel_rfl) (by kernel_rfl) (fun _ _ _ h => h) (Or.inl ⟨by rfl, ?_⟩) hS ?_
          rotate_left
          · intro wx hSx; clear hSx; first | (go_simp; done) | (go_simp; with_reducible rfl)
          simp only [Act.put, List.setIfInBounds_toArray, List.set_cons_zero, List.set_cons_succ]
          refine takeH (i := 17) (d := some 18) (v := ?_) rfl rfl (by kernel_rfl) (by kernel_rfl) (by kernel_rfl) (fun _ _ _ h => h) (Or.inl ⟨by rfl, ?_⟩) hS ?_
          rotate_left
          · intro wx hSx; clear hSx; first | (go_simp; done) | (go_simp; with_reducible rfl)
          simp only [Act.put, List.setIfInBounds_toArray, List.set_cons_zero, List.set_cons_succ]
          refine wpAnyH_done (by kernel_rfl) ?_ _
          go_wp2_with fail
          go_meet
          rw [hUO, IntWalk.i64_in (o * sc) (by omega), IntWalk.i64_in (2 + o * sc) (by omega), IntWalk.i64_in (2 + o * sc + rn) (by omega)]
          exact ⟨rfl, hS⟩
        case rest =>
        obtain ⟨rfl, hbx⟩ := hcut
        rename World => wv
        try apply_assumption
        replace HO := Lib.hid (own_keep HO.out hbx)
        replace HN := Lib.hid (HN.out.keep hbx)
        replace HP := Lib.hid (HP.out.keep hbx)
        replace HK := Lib.hid (HK.out.trans (Kt.below hbx))
        replace HB := Lib.hid (below_seq HB.out hbx)
        replace hsz : w1.heap.size ≤ wv.heap.size := HB.out.size
        replace hbr : wr.heap.size ≤ wv.heap.size := HK.out.size
        replace K6 := Lib.hid (K6.out.keep hbx)
        clear hbx co ct b4 bq hUO hm0 hm1 mo mo1 hcs hxo ho0 ho1 HCL hrb
        by_cases hlim : 1048576 < uo
        · have hlim' : (1048576 : Int) < uo := hlim
          have hr1 := HW.out.lim hxk HPS.out (by rw [← HUO.out]; exact hlim)
          have HE := Lib.hid (untE_err HM.out (by decide) (HS.out.err HM.out hj HJC.out (by decide) hr1))
          have Y2 := HY0.out wv HB.out
          clear hr1 hlim
          go_wp2_with (first | (refine wpList_store_row rfl 46 _ _ rfl (w.heap.size + 1) #[.int .i64 0, .int .i64 0, .slice none 0 0, .slice none 0 0] rfl rfl 46 _ Y2 (by kernel_rfl) rfl (by simp [Value.oneCell']) ?_))
          refine ret_c2 (set_row_blk Y2) rfl rfl Try.underlying46 rfl (by kernel_rfl) rfl ?_
          rw [HE.out]
          exact UntP_err rfl (below_row (below_seq HBL.out HB.out) hy1 _)
        have HLM : Hid (¬ 1048576 < Tm.uO m k T cc x) := Lib.hid (by rw [← HUO.out]; exact hlim)
        have hlim' : ¬ (1048576 : Int) < uo := hlim
        go_upto_region 23 with fail
        clear hlim hlim'
        have hz : (zeroValue 3).run Try.prog wv = .ok (.int .i64 0) wv := by rfl
        obtain ⟨v0, hlook, hv0⟩ := HN.out.at_ HOA.out h128 hz
        clear hz
        have HLMI : Hid (¬ 1048576 < Tm.uO m k T cc x) := HLM
        by_cases hin : (Tm.aftC m k cc x) ∈ q2
        · have HI := Lib.hid (HW.out.old HM.out HOK.out hxk HPS.out HLM.out hin)
          rw [← HUO.out] at HI
          obtain rfl := hv0 hin
          obtain ⟨ix, hix⟩ : ∃ ix, ix = Tm.idx q2 (Tm.aftC m k cc x) := ⟨_, rfl⟩
          rw [decide_eq_true hin] at hlook
          rw [← hix] at hlook HI
          clear hix hin hv0 HLM HLMI
          go_upto_region 30 with (first | (refine wpList_load_row rfl 66 _ rfl k6 rfl 66 (pc (Tm.aftC m k cc x)) (0, 0) _ K6.out Try.underlying66 rfl (by kernel_rfl) ?_))
          clear hlook
          go_wp2_with (first | (at_builtin; refine appL elI_len (by decide) rfl (.tmp 116) (.tmp 118) 59 3 _ _ rfl Try.underlying59 infoI rfl (by decide) (y := uo) rfl rfl rfl rfl HP2.out.o elI_one ho6 hbs5 ?_; intro v6 w6 ho6' hg6 hl6 hbb6 _) | (at_builtin; refine appL elI_len (by decide) rfl (.tmp 112) (.tmp 114) 59 3 _ _ rfl Try.underlying59 infoI rfl (by decide) (y := (ix : Int)) rfl rfl rfl rfl HP.out.n elI_one hq6 hbr ?_; intro v5 w5 ho5 hg5 hl5 hbb5 hbs5; have HP2 := Lib.hid (HP.out.pushN ho5 hg5 hl5)))
          have hk1 := app_kt HP.out.n hg5
          have hk2 := app_kt HP2.out.o hg6
          have HP3 := Lib.hid (HP2.out.pushO ho6' hg6 hl6)
          replace HO := Lib.hid (own_kt (own_kt HO.out hk1 (isT_ne (by decide))) hk2 (isT_ne (by decide)))
          replace HN := Lib.hid (seen_kt (seen_kt HN.out hk1 map_notT) hk2 map_notT)
          replace HK := Lib.hid ((HK.out.far (hbb5 wr.heap.size _ (Nat.le_refl _) (Below.refl _ _))).far (hbb6 wr.heap.size _ (Nat.le_refl _) (Below.refl _ _)))
          replace HB := Lib.hid (hbb6 w1.heap.size w1 hbs (hbb5 w1.heap.size w1 hbs HB.out))
          clear hk1 hk2 ho5 hg5 hl5 hbb5 ho6' hg6 hl6 hbb6 HP2 HP
          go_wp2_with fail
          go_roundw
          case rel => exact ⟨x + 1, q2, _, _, by omega, by go_num, HN, HO, HP3, HI, HK, HB⟩
          case measure => simp [intOf] <;> omega
        rw [decide_eq_false hin] at hlook
        clear hv0
        by_cases hfull : 128 ≤ q2.length
        · have hfe : q2.length = 128 := by omega
          have hr1 := HW.out.full hxk HPS.out HLM.out hin hfull
          have HE := Lib.hid (untE_err HM.out (by decide) (HS.out.err HM.out hj HJC.out (by decide) hr1))
          have Y2 := HY0.out wv HB.out
          have hge : (128 : Int) ≤ (q2.length : Int) := by omega
          clear hr1 hin hfull hfe
          go_wp2_with (first | (refine wpList_load_row rfl 66 _ rfl k6 rfl 66 (pc (Tm.aftC m k cc x)) (0, 0) _ K6.out Try.underlying66 rfl (by kernel_rfl) ?_) | (refine wpList_store_row rfl 46 _ _ rfl (w.heap.size + 1) #[.int .i64 0, .int .i64 0, .slice none 0 0, .slice none 0 0] rfl rfl 46 _ Y2 (by kernel_rfl) rfl (by simp [Value.oneCell']) ?_))
          refine ret_c2 (set_row_blk Y2) rfl rfl Try.underlying46 rfl (by kernel_rfl) rfl ?_
          rw [HE.out]
          exact UntP_err rfl (below_row (below_seq HBL.out HB.out) hy1 _)
        have HI := Lib.hid (HW.out.new HM.out HOK.out hxk HPS.out HLM.out hin hfull)
        have HNI := Lib.hid hin
        rw [← HUO.out] at HI
        have hge : ¬ (128 : Int) ≤ (q2.length : Int) := by omega
        clear hin HLM HLMI
        go_upto_region 28 with (first | (refine wpList_load_row rfl 66 _ rfl k6 rfl 66 (pc (Tm.aftC m k cc x)) (0, 0) _ K6.out Try.underlying66 rfl (by kernel_rfl) ?_))
        clear hlook hge
        obtain ⟨wm, hput, hseen, hgr⟩ := HN.out.put HOA.out h128 h4 (by unfold maxLen; omega) HNI.out (by omega)
        have HGR := Lib.hid hgr
        have HSEEN := Lib.hid hseen
        have K6' := K6.out
        clear hgr hseen
        go_upto_region 29 with (first | (refine wpList_load_row rfl 66 _ rfl k6 rfl 66 (pc (Tm.aftC m k cc x)) (0, 0) _ K6' Try.underlying66 rfl (by kernel_rfl) ?_))
        clear hput K6'
        have hk1 : Kt isM wv wm := Kt.grown HGR.out HN.out.isM_
        replace HO := Lib.hid (own_kt HO.out hk1 isT_notM)
        replace HP := Lib.hid (HP.out.kt hk1 isT_notM)
        replace HK := Lib.hid (HK.out.trans (hk1.weak fun o h => .inr h))
        replace K6 := Lib.hid (blk_kt K6.out hk1 isT_notM)
        replace HB := Lib.hid (below_grown HB.out HGR.out hbm hsz)
        replace HN := HSEEN
        replace hsz : w1.heap.size ≤ wm.heap.size := HB.out.size
        replace hbr : wr.heap.size ≤ wm.heap.size := HK.out.size
        clear HGR HSEEN hk1 hfull
        generalize hcn : (Tm.aftC m k cc x) = cn at *
        clear hcn
        have hq7 : q2.length ≤ 1099511627776 := by omega
        have K7 := K6.out
        go_upto_region 30 with (first | (refine wpList_load_row rfl 66 _ rfl k6 rfl 66 (#[.int .i64 (cn.1 : Nat), .bool (cn.2.getD 0 false), .bool (cn.2.getD 1 false), .bool (cn.2.getD 2 false), .bool (cn.2.getD 3 false)]) (0, 0) _ K7 Try.underlying66 rfl (by kernel_rfl) ?_) | (at_builtin; refine appL pcl_len (by decide) rfl (.tmp 108) (.tmp 110) 68 66 _ _ rfl Try.underlying68 infoP rfl (by decide) (y := cn) rfl rfl rfl rfl HO.out pcl_one hq7 hsz ?_; intro v7 w7 ho7 hg7 _ hbb7 _))
        have hk1 := app_kt HO.out hg7
        replace HN := Lib.hid (seen_kt HN.out hk1 map_notT)
        replace HP := Lib.hid (HP.out.kt hk1 (isT_ne (by decide)))
        replace HK := Lib.hid (HK.out.trans (hk1.weak fun o h => .inl h))
        replace HB := Lib.hid (hbb7 w1.heap.size w1 (Nat.le_refl _) HB.out)
        replace HO : Hid (OwnL pcl 5 w7 w1.heap.size 66 v7 (q2 ++ [cn])) := Lib.hid ho7
        replace hbr : wr.heap.size ≤ w7.heap.size := HK.out.size
        clear hk1 ho7 hg7 hbb7 K6 K7 hsz hq7
        generalize hq9 : q2.length = p9 at *
        go_wp2_with (first | (at_builtin; refine appL elI_len (by decide) rfl (.tmp 116) (.tmp 118) 59 3 _ _ rfl Try.underlying59 infoI rfl (by decide) (y := uo) rfl rfl rfl rfl HP2.out.o elI_one ho6 hbs5 ?_; intro v6 w6 ho6' hg6 hl6 hbb6 _) | (at_builtin; refine appL elI_len (by decide) rfl (.tmp 112) (.tmp 114) 59 3 _ _ rfl Try.underlying59 infoI rfl (by decide) (y := (p9 : Int)) rfl rfl rfl rfl HP.out.n elI_one hq6 hbr ?_; intro v5 w5 ho5 hg5 hl5 hbb5 hbs5; have HP2 := Lib.hid (HP.out.pushN ho5 hg5 hl5)))
        have hk1 := app_kt HP.out.n hg5
        have hk2 := app_kt HP2.out.o hg6
        have HP3 := Lib.hid (HP2.out.pushO ho6' hg6 hl6)
        replace HO := Lib.hid (own_kt (own_kt HO.out hk1 (isT_ne (by decide))) hk2 (isT_ne (by decide)))
        replace HN := Lib.hid (seen_kt (seen_kt HN.out hk1 map_notT) hk2 map_notT)
        replace HK := Lib.hid ((HK.out.far (hbb5 wr.heap.size _ (Nat.le_refl _) (Below.refl _ _))).far (hbb6 wr.heap.size _ (Nat.le_refl _) (Below.refl _ _)))
        replace HB := Lib.hid (hbb6 w1.heap.size w1 hbs (hbb5 w1.heap.size w1 hbs HB.out))
        clear hk1 hk2 ho5 hg5 hl5 hbb5 ho6' hg6 hl6 hbb6 HP2 HP
        have HN3 : Hid (SeenN w6 bm (q2 ++ [cn]).length m.nx.length T (q2 ++ [cn])) := Lib.hid (by rw [List.length_append, List.length_singleton, hq9]; exact HN.out)
        go_wp2_with fail
        go_roundw
        case rel => exact ⟨x + 1, q2 ++ [cn], _, _, by omega, by go_num, HN3, HO, HP3, HI, HK, HB⟩
        case measure => simp [intOf] <;> omega
end Go.Proofs.Ytpcoddbkcelaoaa
