/- The code's step from a configuration to the next. -/
import Derived.Test.YtpcoddbkcelaoaaReg
namespace Go.Proofs.Ytpcoddbkcelaoaa
open Go.RowKit

theorem alloc_size (w : World) (o : Obj) : (w.alloc o).heap.size = w.heap.size + 1 := by simp
theorem blk_new1 (w : World) (o : Obj) (t : TypeId) (cs : Array Value) : Blk ((w.alloc o).alloc (.cells cs t)) (w.heap.size + 1) t cs := by
  have := Blk.new (w.alloc o) t cs; rwa [alloc_size] at this
theorem blk_new2 (w : World) (o o' : Obj) (t : TypeId) (cs : Array Value) : Blk (((w.alloc o).alloc o').alloc (.cells cs t)) (w.heap.size + 2) t cs := by
  have := Blk.new ((w.alloc o).alloc o') t cs; rwa [alloc_size, alloc_size] at this
/-- the configuration that 'after' returns, and the code -/
def resC (m : Tm.M) (k : Nat) (c : Tm.Cfg) (i : Nat) : Tm.Cfg := if Tm.poss k c i = true then Tm.aftC m k c i else c
def resN (m : Tm.M) (k : Nat) (c : Tm.Cfg) (i : Nat) : Int := if Tm.poss k c i = true then Tm.aftN m k c i - 1 else -1
theorem res_no {m : Tm.M} {k : Nat} {c : Tm.Cfg} {i : Nat} (h : Tm.poss k c i = false) : resC m k c i = c ∧ resN m k c i = -1 := by unfold resC resN; rw [h]; exact ⟨rfl, rfl⟩
theorem res_idle {m : Tm.M} {k : Nat} {c : Tm.Cfg} {i : Nat} (h : Tm.poss k c i = true) (ha : Tm.acts m k c i = false) : resC m k c i = (Tm.nxA m c.1 i, Tm.run1 k c i) ∧ resN m k c i = -1 := by
  unfold resC resN Tm.aftC Tm.aftN; rw [if_pos h, if_pos h, ha]; exact ⟨rfl, rfl⟩
theorem res_act {m : Tm.M} {k : Nat} {c : Tm.Cfg} {i : Nat} (h : Tm.poss k c i = true) (ha : Tm.acts m k c i = true) : resC m k c i = (Tm.nxA m c.1 i, (Tm.run1 k c i).set (Tm.setA m c.1 i).1.toNat (decide (0 < (Tm.setA m c.1 i).2))) ∧ resN m k c i = (Tm.setA m c.1 i).1 * 1001 + (Tm.setA m c.1 i).2 := by
  unfold resC resN Tm.aftC Tm.aftN; rw [if_pos h, if_pos h, ha]; exact ⟨rfl, by simp; omega⟩
set_option maxRecDepth 100000 in
set_option maxHeartbeats 8000000 in
theorem after_p (m : Tm.M) (k T S : Nat) (cf : Tm.Cfg) (i : Nat) (A B C : Option Addr) (c d e : Nat) (w : World) (hm : Tm.Ok m k T S) (hc : Tm.CfgOk m.nx.length T cf) (hi : i < k + T) (hR : RdT w A B C m) :
    Calls Try.prog 25 #[.agg #[.int .i64 m.I, .int .i64 m.T, .int .i64 m.S, .slice A m.nx.length c, .slice B m.out.length d, .slice C m.set.length e], .agg #[.int .i64 (cf.1 : Nat), .bool (cf.2.getD 0 false), .bool (cf.2.getD 1 false), .bool (cf.2.getD 2 false), .bool (cf.2.getD 3 false)], .int .i64 i] w fun r w' => r = .returned (.tuple #[.agg (pc (resC m k cf i)), .int .i64 (resN m k cf i), .bool (Tm.poss k cf i)]) ∧ Below w.heap.size w w' := by
  have HM := Lib.hid hm
  have HC := Lib.hid hc
  have h4 := hm.t4
  have h64 := hm.k64
  have h128 := hm.n128
  rw [hm.I, hm.T', hm.S']
  clear hm hc
  go_enter Try.func25, Try.ntmps25
  go_upto_region 1 with fail
  generalize hwb : World.alloc _ _ = w0
  have BX : Hid (BoxT w0 w.heap.size m A c B d C e) := Lib.hid (boxT (by rw [← hwb]; unfold tc; rw [HM.out.I, HM.out.T', HM.out.S']; exact ((Blk.new _ _ _).alloc _).alloc _))
  have P4 : Hid (Blk w0 (w.heap.size + 1) 66 (pc cf)) := Lib.hid (by rw [← hwb]; exact (blk_new1 _ _ _ _).alloc _)
  have G6 : Hid (Blk w0 (w.heap.size + 2) 66 #[.int .i64 0, .bool false, .bool false, .bool false, .bool false]) := Lib.hid (by rw [← hwb]; exact blk_new2 _ _ _ _ _)
  have HBL : Hid (Below w.heap.size w w0) := Lib.hid (by rw [← hwb]; exact (((Below.refl _ _).alloc (Nat.le_refl _) _).alloc (by rw [alloc_size]; omega) _).alloc (by rw [alloc_size, alloc_size]; omega) _)
  have HSZ : Hid (w.heap.size + 2 < w0.heap.size) := Lib.hid G6.out.lt
  have HR := Lib.hid (hR.keep HBL.out)
  clear hwb hR
  have hs := HC.out.1
  have hcl := HC.out.2
  obtain ⟨ad, A1, c1, xs, rfl, hx, cx, rx⟩ := HR.out.nx.at_ hs
  obtain ⟨gd, C1, e1, ss, rfl, hsx, cs, rs⟩ := HR.out.set.at_ (i := cf.1) (by rw [HM.out.e]; exact hs)
  have hxl : i < xs.length := by rw [← hx, HM.out.rowN _ hs]; exact hi
  have hsl : i < ss.length := by rw [← hsx, HM.out.rowS _ hs]; exact hi
  obtain ⟨ad1, t, rfl, ht, ct⟩ := rx.at_ hxl
  obtain ⟨gd1, a, b, rfl, hab, ca, cb⟩ := rs.at_ hsl
  obtain rfl : t = (Tm.nxA m cf.1 i : Int) := by rw [← ht, ← hx]; exact (HM.out.nx1 hs hi).2
  have hset : Tm.setA m cf.1 i = (a, b) := by unfold Tm.setA; rw [hsx, hab]
  have hcell := HM.out.cell cf.1 i hs hi
  rw [hsx, hab] at hcell
  have HSE := Lib.hid hset
  have ha0 := hcell.a0
  have ha1 := hcell.a1
  have hb0 := hcell.b0
  have hb1 := hcell.b1
  have mx := rx.1
  have mnx := HR.out.nx.1
  have mse := HR.out.set.1
  have ms := rs.1
  have HCS := Lib.hid (And.intro cs (And.intro ca cb))
  have hsel : (cf.1 : Int) < (m.set.length : Int) := by rw [HM.out.e]; omega
  clear hx ht hsx hab hset hcell rx rs cs ca cb
  generalize hq : Tm.nxA m cf.1 i = q at *
  have HQ := Lib.hid hq
  clear hq
  have c3 := BX.out.c3
  have p0 : w0.cell? ⟨w.heap.size + 1, 0, none⟩ = some (.int .i64 cf.1) := P4.out.cell 0
  refine wp_region_held_drew (S := fun wx => Below w0.heap.size w0 wx) (by kernel_rfl) ((Below.refl _ _).drew) (fun hS => ?_)
  refine takeH (i := 0) (d := some 12) (v := ?_) rfl rfl (by kernel_rfl) (by kernel_rfl) (by kernel_rfl) (fun _ _ _ h => h) (Or.inl ⟨by rfl, ?_⟩) hS ?_
  rotate_left
  · intro wx hSx; clear hSx; first | (go_simp; done) | (go_simp; with_reducible rfl)
  simp only [Act.put, List.setIfInBounds_toArray, List.set_cons_zero, List.set_cons_succ]
  refine takeH (i := 1) (d := some 13) (v := ?_) rfl rfl (by kernel_rfl) (by kernel_rfl) (by kernel_rfl) (fun _ _ _ h => h) (Or.inl ⟨by rfl, ?_⟩) hS ?_
  rotate_left
  · intro wx hSx; have hSy : Below w0.heap.size w0 wx := hSx; have e0 := keep_cell hSy c3; have e1 := keep_cell hSy p0; have e2 := keep_cell hSy cx; have e3 := keep_cell hSy ct; clear hSy hSx; first | (go_simp; done) | (go_simp; with_reducible rfl)
  simp only [Act.put, List.setIfInBounds_toArray, List.set_cons_zero, List.set_cons_succ]
  refine takeH (i := 2) (d := some 14) (v := ?_) rfl rfl (by kernel_rfl) (by kernel_rfl) (by kernel_rfl) (fun _ _ _ h => h) (Or.inl ⟨by rfl, ?_⟩) hS ?_
  rotate_left
  · intro wx hSx; clear hSx; first | (go_simp; done) | (go_simp; with_reducible rfl)
  simp only [Act.put, List.setIfInBounds_toArray, List.set_cons_zero, List.set_cons_succ]
  refine takeH (i := 3) (d := some 15) (v := ?_) rfl rfl (by kernel_rfl) (by kernel_rfl) (by kernel_rfl) (fun _ _ _ h => h) (Or.inl ⟨by rfl, ?_⟩) hS ?_
  rotate_left
  · intro wx hSx; have hSy : Below w0.heap.size w0 wx := hSx; have e0 := keep_cell hSy c3; have e1 := keep_cell hSy p0; have e2 := keep_cell hSy cx; have e3 := keep_cell hSy ct; clear hSy hSx; first | (go_simp; done) | (go_simp; with_reducible rfl)
  simp only [Act.put, List.setIfInBounds_toArray, List.set_cons_zero, List.set_cons_succ]
  refine takeH (i := 4) (d := some 16) (v := ?_) rfl rfl (by kernel_rfl) (by kernel_rfl) (by kernel_rfl) (fun _ _ _ h => h) (Or.inl ⟨by rfl, ?_⟩) hS ?_
  rotate_left
  · intro wx hSx; clear hSx; first | (go_simp; done) | (go_simp; with_reducible rfl)
  simp only [Act.put, List.setIfInBounds_toArray, List.set_cons_zero, List.set_cons_succ]
  refine takeH (i := 5) (d := some 17) (v := ?_) rfl rfl (by kernel_rfl) (by kernel_rfl) (by kernel_rfl) (fun _ _ _ h => h) (Or.inl ⟨by rfl, ?_⟩) hS ?_
  rotate_left
  · intro wx hSx; have hSy : Below w0.heap.size w0 wx := hSx; have e0 := keep_cell hSy c3; have e1 := keep_cell hSy p0; have e2 := keep_cell hSy cx; have e3 := keep_cell hSy ct; clear hSy hSx; first | (go_simp; done) | (go_simp; with_reducible rfl)
  simp only [Act.put, List.setIfInBounds_toArray, List.set_cons_zero, List.set_cons_succ]
  refine takeH (i := 6) (d := some 18) (v := ?_) rfl rfl (by kernel_rfl) (by kernel_rfl) (by kernel_rfl) (fun _ _ _ h => h) (Or.inl ⟨by rfl, ?_⟩) hS ?_
  rotate_left
  · intro wx hSx; clear hSx; first | (go_simp; done) | (go_simp; with_reducible rfl)
  simp only [Act.put, List.setIfInBounds_toArray, List.set_cons_zero, List.set_cons_succ]
  refine takeH (i := 7) (d := some 19) (v := ?_) rfl rfl (by kernel_rfl) (by kernel_rfl) (by kernel_rfl) (fun _ _ _ h => h) (Or.inl ⟨by rfl, ?_⟩) hS ?_
  rotate_left
  · intro wx hSx; clear hSx; first | (go_simp; done) | (go_simp; with_reducible rfl)
  simp only [Act.put, List.setIfInBounds_toArray, List.set_cons_zero, List.set_cons_succ]
  refine takeH (i := 8) (d := some 20) (v := ?_) rfl rfl (by kernel_rfl) (by kernel_rfl) (by kernel_rfl) (fun _ _ _ h => h) (Or.inl ⟨by rfl, ?_⟩) hS ?_
  rotate_left
  · intro wx hSx; have hSy : Below w0.heap.size w0 wx := hSx; have e0 := keep_cell hSy c3; have e1 := keep_cell hSy p0; have e2 := keep_cell hSy cx; have e3 := keep_cell hSy ct; clear hSy hSx; first | (go_simp; done) | (go_simp; with_reducible rfl)
  simp only [Act.put, List.setIfInBounds_toArray, List.set_cons_zero, List.set_cons_succ]
  refine takeH (i := 9) (d := some 21) (v := ?_) rfl rfl (by kernel_rfl) (by kernel_rfl) (by kernel_rfl) (fun _ _ _ h => h) (Or.inl ⟨by rfl, ?_⟩) hS ?_
  rotate_left
  · intro wx hSx; clear hSx; first | (go_simp; done) | (go_simp; with_reducible rfl)
  simp only [Act.put, List.setIfInBounds_toArray, List.set_cons_zero, List.set_cons_succ]
  refine takeH (i := 10) (d := some 22) (v := .agg #[.bool (cf.2.getD 0 false), .bool (cf.2.getD 1 false), .bool (cf.2.getD 2 false), .bool (cf.2.getD 3 false)]) rfl rfl (by kernel_rfl) (by kernel_rfl) (by kernel_rfl) (fun _ _ _ h => h) (yieldsIf_load_any (by rfl) 64 _ rfl ⟨w.heap.size + 1, 1, none⟩ rfl [.bool (cf.2.getD 0 false), .bool (cf.2.getD 1 false), .bool (cf.2.getD 2 false), .bool (cf.2.getD 3 false)] _ (fun wx hSx => (Blk.keep P4.out hSx).part 1 _ rfl) Try.underlying64 rfl (by kernel_rfl)) hS ?_
  simp only [Act.put, List.setIfInBounds_toArray, List.set_cons_zero, List.set_cons_succ]
  refine takeH (i := 11) (d := some 23) (v := ?_) rfl rfl (by kernel_rfl) (by kernel_rfl) (by kernel_rfl) (fun _ _ _ h => h) (Or.inl ⟨by rfl, ?_⟩) hS ?_
  rotate_left
  · intro wx hSx; clear hSx; first | (go_simp; done) | (go_simp; with_reducible rfl)
  simp only [Act.put, List.setIfInBounds_toArray, List.set_cons_zero, List.set_cons_succ]
  generalize hwa : World.drew _ = wa at hS ⊢
  clear hwa
  have HSa := Lib.hid hS
  clear hS
  refine wpAnyH_ready (rs := [12]) (by kernel_rfl) (by simp) ?_
  refine AllReadyH.cons rfl (fun K hK => ?_) AllReadyH.nil
  rw [if_pos (by rfl)]
  go_simp
  refine hK.out _ _ (Below.alloc HSa.out HSa.out.size _) (fun hS2 => ?_)
  clear hK K
  try simp only [Act.put, List.setIfInBounds_toArray, List.set_cons_zero, List.set_cons_succ]
  generalize hwb : World.alloc _ _ = wb at hS2 ⊢
  have K9 : Hid (Blk wb wa.heap.size 66 #[.int .i64 0, .bool false, .bool false, .bool false, .bool false]) := Lib.hid (by rw [← hwb]; exact Blk.new _ _ _)
  have hgeK9 : w0.heap.size ≤ wa.heap.size := HSa.out.size
  have hal : Below wa.heap.size wa wb := by rw [← hwb]; exact (Below.refl _ _).alloc (Nat.le_refl _) _
  replace HSa := Lib.hid hS2
  generalize wa.heap.size = kK9 at *
  clear hS2 hwb hal
  rename World => wa
  refine wpAnyH_ready (rs := [13]) (by kernel_rfl) (by simp) ?_
  refine AllReadyH.cons rfl (fun K hK => ?_) AllReadyH.nil
  rw [if_pos (by rfl)]
  refine wp_store_row 66 _ _ rfl kK9 #[.int .i64 (q : Nat), .bool (cf.2.getD 0 false), .bool (cf.2.getD 1 false), .bool (cf.2.getD 2 false), .bool (cf.2.getD 3 false)] rfl rfl 66 _ K9.out (by kernel_rfl) rfl (by simp [Value.oneCell']) ?_
  refine hK.out _ _ (below_row HSa.out hgeK9 _) (fun hS2 => ?_)
  clear hK K
  change wpAnyH _ _ _ _ _ _ _ (Act.put _ none _) _
  try simp only [Act.put]
  generalize hwb : World.setRow _ _ _ = wb at hS2 ⊢
  have K9n : Hid (Blk wb kK9 66 #[.int .i64 (q : Nat), .bool (cf.2.getD 0 false), .bool (cf.2.getD 1 false), .bool (cf.2.getD 2 false), .bool (cf.2.getD 3 false)]) := Lib.hid (by rw [← hwb]; exact set_row_blk K9.out)
  replace HSa := Lib.hid hS2
  clear hS2 hwb
  rename World => wa
  refine wpAnyH_done (by kernel_rfl) ?_ _
  clear c3 p0 cx ct
  replace K9n : Hid (Blk wa kK9 66 (pc (q, cf.2))) := K9n
  clear K9
  have bx := Lib.hid (BX.out.keep HSa.out)
  have c0 := bx.out.c0
  rw [HM.out.I] at c0
  by_cases hik : i < k
  · have HP : Hid (Tm.poss k cf i = true) := Lib.hid (by unfold Tm.poss; simp [hik])
    have hik' : (i : Int) < k := by omega
    obtain ⟨r, hr⟩ : ∃ r, r = cf.2 := ⟨_, rfl⟩
    have HR1 : Hid (Tm.run1 k cf i = r) := Lib.hid (by unfold Tm.run1; rw [if_pos hik, hr])
    have K9r : Hid (Blk wa kK9 66 (pc (q, r))) := Lib.hid (by rw [hr]; exact K9n.out)
    have hrl : r.length = T := by rw [hr]; exact hcl
    have HSn := HSa
    clear K9n HSa hr
    go_upto_region 7 with fail
    clear c0 bx hik'
    rename World => wn
    have bx := Lib.hid (BX.out.keep HSn.out)
    have c5 := bx.out.c5
    have p0 : wn.cell? ⟨w.heap.size + 1, 0, none⟩ = some (.int .i64 cf.1) := (P4.out.keep HSn.out).cell 0
    have cs := keep_cell HSn.out HCS.out.1
    have ca := keep_cell HSn.out HCS.out.2.1
    have cb := keep_cell HSn.out HCS.out.2.2
    go_upto_region 8 with (refine wpList_load_any rfl 104 _ rfl (gd1.add (i * 2)) rfl [.int .i64 a, .int .i64 b] _ (cells2' ca cb) Try.underlying104 rfl (by kernel_rfl) ?_)
    generalize hwc : World.alloc _ _ = wc
    have hbc : Below wn.heap.size wn wc := hwc ▸ (Below.refl _ _).alloc (Nat.le_refl _) _
    have G11 : Hid (Blk wc wn.heap.size 104 #[.int .i64 a, .int .i64 b]) := Lib.hid (by rw [← hwc]; exact Blk.new _ _ _)
    have hn11 : kK9 < wn.heap.size := K9r.out.lt
    have hn6 : w.heap.size + 2 < wn.heap.size := Nat.lt_of_lt_of_le HSZ.out HSn.out.size
    replace K9r := Lib.hid (K9r.out.keep hbc)
    replace HSn := Lib.hid (below_seq HSn.out hbc)
    have hne6 : w.heap.size + 2 ≠ kK9 := Nat.ne_of_lt (Nat.lt_of_lt_of_le HSZ.out hgeK9)
    generalize wn.heap.size = k11 at *
    have g0 : wc.cell? ⟨k11, 0, none⟩ = some (.int .i64 a) := G11.out.cell 0
    have g1 : wc.cell? ⟨k11, 1, none⟩ = some (.int .i64 b) := G11.out.cell 1
    clear hwc hbc c5 p0 cs ca cb bx wn
    rename World => wn
    by_cases q1 : a < 0
    · have d1 : decide (a < 0) = true := by simpa using q1
      have HI := Lib.hid (res_idle HP.out (by unfold Tm.acts; rw [HSE.out]; simp; omega))
      rw [HR1.out, HQ.out] at HI
      clear q1
      have G6n := Lib.hid (G6.out.keep HSn.out)
      go_upto_region 9 with fail
      clear g0 g1 d1
      go_wp2_with (first | (refine wpList_load_row rfl 66 _ rfl kK9 rfl 66 #[.int .i64 (q : Nat), .bool (r.getD 0 false), .bool (r.getD 1 false), .bool (r.getD 2 false), .bool (r.getD 3 false)] (0, 0) _ K9r.out Try.underlying66 rfl (by kernel_rfl) ?_) | (refine wpList_store_row rfl 66 _ _ rfl (w.heap.size + 2) #[.int .i64 (q : Nat), .bool (r.getD 0 false), .bool (r.getD 1 false), .bool (r.getD 2 false), .bool (r.getD 3 false)] rfl rfl 66 _ G6n.out (by kernel_rfl) rfl (by simp [Value.oneCell']) ?_))
      refine ret_c3 (set_row_blk G6n.out) rfl rfl Try.underlying66 rfl (by kernel_rfl) rfl ?_
      exact ⟨by rw [HI.out.1, HI.out.2, HP.out]; rfl, below_row (below_seq HBL.out HSn.out) (by omega) _⟩
    obtain ⟨n, rfl⟩ : ∃ n : Nat, a = n := ⟨a.toNat, by omega⟩
    have hnT : n < T := by omega
    have cbit := blk_bit K9r.out (show n < 4 by omega)
    by_cases q2 : b = 0
    · have d2 : (b == 0) = true := by simpa using q2
      obtain ⟨x, hx⟩ : ∃ x, x = r.getD n false := ⟨_, rfl⟩
      dsimp only at cbit
      rw [← hx] at cbit
      cases x
      · have HI := Lib.hid (res_idle HP.out (by unfold Tm.acts; rw [HSE.out, HR1.out]; simp only [Int.toNat_natCast]; rw [← hx, q2]; simp))
        rw [HR1.out, HQ.out] at HI
        clear hx
        have G6n := Lib.hid (G6.out.keep HSn.out)
        go_upto_region 9 with fail
        clear g0 g1 d2 cbit
        go_wp2_with (first | (refine wpList_load_row rfl 66 _ rfl kK9 rfl 66 #[.int .i64 (q : Nat), .bool (r.getD 0 false), .bool (r.getD 1 false), .bool (r.getD 2 false), .bool (r.getD 3 false)] (0, 0) _ K9r.out Try.underlying66 rfl (by kernel_rfl) ?_) | (refine wpList_store_row rfl 66 _ _ rfl (w.heap.size + 2) #[.int .i64 (q : Nat), .bool (r.getD 0 false), .bool (r.getD 1 false), .bool (r.getD 2 false), .bool (r.getD 3 false)] rfl rfl 66 _ G6n.out (by kernel_rfl) rfl (by simp [Value.oneCell']) ?_))
        refine ret_c3 (set_row_blk G6n.out) rfl rfl Try.underlying66 rfl (by kernel_rfl) rfl ?_
        exact ⟨by rw [HI.out.1, HI.out.2, HP.out]; rfl, below_row (below_seq HBL.out HSn.out) (by omega) _⟩
      · have HA := Lib.hid (res_act HP.out (by unfold Tm.acts; rw [HSE.out, HR1.out]; simp only [Int.toNat_natCast]; rw [← hx, q2]; simp))
        rw [HR1.out, HSE.out, HQ.out] at HA
        simp only [Int.toNat_natCast] at HA
        rw [show decide (0 < b) = false by rw [q2]; rfl] at HA
        clear hx
        have hn4 : n < 4 := by omega
        have ck := blk_bit K9r.out hn4
        have fk := K9r.out.frozen (1 + n)
        go_upto_region 11 with fail
        clear ck fk d2 q2 cbit
        generalize hwd : World.setCell _ _ _ = wd
        have KD : Hid (Blk wd kK9 66 (pc (q, r.set n false))) := Lib.hid (by rw [← hwd]; exact (K9r.out.set_ _ _).fit (pc_set (r := r) (x := n) (by omega) (by omega) _))
        have GD : Hid (Blk wd k11 104 #[.int .i64 (n : Int), .int .i64 b]) := Lib.hid (by rw [← hwd]; exact G11.out.far (by show k11 ≠ kK9; omega) _)
        have G6n : Hid (Blk wd (w.heap.size + 2) 66 #[.int .i64 0, .bool false, .bool false, .bool false, .bool false]) := Lib.hid (by rw [← hwd]; exact (G6.out.keep HSn.out).far (by show w.heap.size + 2 ≠ kK9; omega) _)
        have HBD : Hid (Below w.heap.size w wd) := Lib.hid (by rw [← hwd]; exact below_set (below_seq HBL.out HSn.out) (by show w.heap.size ≤ kK9; have := HBL.out.size; omega) _)
        clear hwd K9r G11 HSn g0 g1
        refine wp_region_held_drew (S := fun wx => Blk wx kK9 66 (pc (q, r.set n false)) ∧ Blk wx k11 104 #[.int .i64 (n : Int), .int .i64 b] ∧ (∃ z, z.size = 5 ∧ Blk wx (w.heap.size + 2) 66 z) ∧ Below w.heap.size w wx) (by kernel_rfl) (⟨KD.out, GD.out, ⟨_, rfl, G6n.out⟩, HBD.out.drew⟩) (fun hS => ?_)
        refine takeH (i := 0) (d := some 74) (v := .agg #[.int .i64 (q : Nat), .bool ((r.set n false).getD 0 false), .bool ((r.set n false).getD 1 false), .bool ((r.set n false).getD 2 false), .bool ((r.set n false).getD 3 false)]) rfl rfl (by kernel_rfl) (by kernel_rfl) (by kernel_rfl) (fun _ _ _ h => h) (yieldsIf_load_any (by rfl) 66 _ rfl ⟨kK9, 0, none⟩ rfl [.int .i64 (q : Nat), .bool ((r.set n false).getD 0 false), .bool ((r.set n false).getD 1 false), .bool ((r.set n false).getD 2 false), .bool ((r.set n false).getD 3 false)] _ (fun wx hSx => hSx.1.part 0 _ rfl) Try.underlying66 rfl (by kernel_rfl)) hS ?_
        simp only [Act.put, List.setIfInBounds_toArray, List.set_cons_zero, List.set_cons_succ]
        refine takeH (i := 1) (d := some 75) (v := ?_) rfl rfl (by kernel_rfl) (by kernel_rfl) (by kernel_rfl) (fun _ _ _ h => h) (Or.inl ⟨by rfl, ?_⟩) hS ?_
        rotate_left
        · intro wx hSx; clear hSx; first | (go_simp; done) | (go_simp; with_reducible rfl)
        simp only [Act.put, List.setIfInBounds_toArray, List.set_cons_zero, List.set_cons_succ]
        refine takeH (i := 2) (d := some 76) (v := ?_) rfl rfl (by kernel_rfl) (by kernel_rfl) (by kernel_rfl) (fun _ _ _ h => h) (Or.inl ⟨by rfl, ?_⟩) hS ?_
        rotate_left
        · intro wx hSx; have e0 : wx.cell? ⟨k11, 0, none⟩ = some (.int .i64 (n : Int)) := hSx.2.1.cell 0; have e1 : wx.cell? ⟨k11, 1, none⟩ = some (.int .i64 b) := hSx.2.1.cell 1; clear hSx; first | (go_simp; done) | (go_simp; with_reducible rfl)
        simp only [Act.put, List.setIfInBounds_toArray, List.set_cons_zero, List.set_cons_succ]
        refine takeH (i := 3) (d := some 77) (v := ?_) rfl rfl (by kernel_rfl) (by kernel_rfl) (by kernel_rfl) (fun _ _ _ h => h) (Or.inl ⟨by rfl, ?_⟩) hS ?_
        rotate_left
        · intro wx hSx; clear hSx; have hw1 := IntWalk.i64_in ((n : Int) * 1001) (by omega); have hw2 := IntWalk.i64_in ((n : Int) * 1001 + b) (by omega); first | (go_simp; done) | (go_simp; with_reducible rfl)
        simp only [Act.put, List.setIfInBounds_toArray, List.set_cons_zero, List.set_cons_succ]
        refine takeH (i := 4) (d := some 78) (v := ?_) rfl rfl (by kernel_rfl) (by kernel_rfl) (by kernel_rfl) (fun _ _ _ h => h) (Or.inl ⟨by rfl, ?_⟩) hS ?_
        rotate_left
        · intro wx hSx; clear hSx; first | (go_simp; done) | (go_simp; with_reducible rfl)
        simp only [Act.put, List.setIfInBounds_toArray, List.set_cons_zero, List.set_cons_succ]
        refine takeH (i := 5) (d := some 79) (v := ?_) rfl rfl (by kernel_rfl) (by kernel_rfl) (by kernel_rfl) (fun _ _ _ h => h) (Or.inl ⟨by rfl, ?_⟩) hS ?_
        rotate_left
        · intro wx hSx; have e0 : wx.cell? ⟨k11, 0, none⟩ = some (.int .i64 (n : Int)) := hSx.2.1.cell 0; have e1 : wx.cell? ⟨k11, 1, none⟩ = some (.int .i64 b) := hSx.2.1.cell 1; clear hSx; first | (go_simp; done) | (go_simp; with_reducible rfl)
        simp only [Act.put, List.setIfInBounds_toArray, List.set_cons_zero, List.set_cons_succ]
        refine takeH (i := 6) (d := some 80) (v := ?_) rfl rfl (by kernel_rfl) (by kernel_rfl) (by kernel_rfl) (fun _ _ _ h => h) (Or.inl ⟨by rfl, ?_⟩) hS ?_
        rotate_left
        · intro wx hSx; clear hSx; have hw1 := IntWalk.i64_in ((n : Int) * 1001) (by omega); have hw2 := IntWalk.i64_in ((n : Int) * 1001 + b) (by omega); first | (go_simp; done) | (go_simp; with_reducible rfl)
        simp only [Act.put, List.setIfInBounds_toArray, List.set_cons_zero, List.set_cons_succ]
        generalize hwa : World.drew _ = wa at hS ⊢
        clear hwa
        have HSa := Lib.hid hS
        clear hS
        refine wpAnyH_ready (rs := [7]) (by kernel_rfl) (by simp) ?_
        refine AllReadyH.cons rfl (fun K hK => ?_) AllReadyH.nil
        obtain ⟨z, hz, hz6⟩ := HSa.out.2.2.1
        rw [if_pos (by rfl)]
        refine wp_store_row 66 _ _ rfl (w.heap.size + 2) #[.int .i64 (q : Nat), .bool ((r.set n false).getD 0 false), .bool ((r.set n false).getD 1 false), .bool ((r.set n false).getD 2 false), .bool ((r.set n false).getD 3 false)] rfl rfl 66 _ hz6 (by kernel_rfl) (by rw [hz]; rfl) (by simp [Value.oneCell']) ?_
        refine hK.out _ _ ⟨far_row_blk HSa.out.1 (by omega), far_row_blk HSa.out.2.1 (by omega), ⟨_, rfl, set_row_blk hz6⟩, below_row HSa.out.2.2.2 (by omega) _⟩ (fun hS2 => ?_)
        clear hK K
        change wpAnyH _ _ _ _ _ _ _ (Act.put _ none _) _
        try simp only [Act.put]
        have G6e := Lib.hid (set_row_blk (cs' := #[.int .i64 (q : Nat), .bool ((r.set n false).getD 0 false), .bool ((r.set n false).getD 1 false), .bool ((r.set n false).getD 2 false), .bool ((r.set n false).getD 3 false)]) hz6)
        replace HSa := Lib.hid hS2
        clear hS2 hz6 hz z
        generalize World.setRow _ _ _ = wb at *
        clear wa
        rename World => wa
        refine takeH (i := 8) (d := some 7) (v := ?_) rfl rfl (by kernel_rfl) (by kernel_rfl) (by kernel_rfl) (fun _ _ _ h => h) (Or.inl ⟨by rfl, ?_⟩) HSa.out ?_
        rotate_left
        · intro wx hSx; clear hSx; first | (go_simp; done) | (go_simp; with_reducible rfl)
        simp only [Act.put, List.setIfInBounds_toArray, List.set_cons_zero, List.set_cons_succ]
        refine takeH (i := 9) (d := some 8) (v := ?_) rfl rfl (by kernel_rfl) (by kernel_rfl) (by kernel_rfl) (fun _ _ _ h => h) (Or.inl ⟨by rfl, ?_⟩) HSa.out ?_
        rotate_left
        · intro wx hSx; clear hSx; first | (go_simp; done) | (go_simp; with_reducible rfl)
        simp only [Act.put, List.setIfInBounds_toArray, List.set_cons_zero, List.set_cons_succ]
        refine wpAnyH_done (by kernel_rfl) ?_ _
        go_wp2_with fail
        refine ret_c3 G6e.out rfl rfl Try.underlying66 rfl (by kernel_rfl) rfl ?_
        exact ⟨by rw [HA.out.1, HA.out.2, HP.out]; rfl, HSa.out.2.2.2⟩
    have d2 : (b == 0) = false := by simpa using q2
    have HA := Lib.hid (res_act HP.out (by unfold Tm.acts; rw [HSE.out]; simp; exact .inl q2))
    rw [HR1.out, HSE.out, HQ.out] at HA
    simp only [Int.toNat_natCast] at HA

    have hn4 : n < 4 := by omega
    have ck := blk_bit K9r.out hn4
    have fk := K9r.out.frozen (1 + n)
    go_upto_region 11 with fail
    clear ck fk d2 cbit
    generalize hwd : World.setCell _ _ _ = wd
    have KD : Hid (Blk wd kK9 66 (pc (q, r.set n (decide (0 < b))))) := Lib.hid (by rw [← hwd]; exact (K9r.out.set_ _ _).fit (pc_set (r := r) (x := n) (by omega) (by omega) _))
    have GD : Hid (Blk wd k11 104 #[.int .i64 (n : Int), .int .i64 b]) := Lib.hid (by rw [← hwd]; exact G11.out.far (by show k11 ≠ kK9; omega) _)
    have G6n : Hid (Blk wd (w.heap.size + 2) 66 #[.int .i64 0, .bool false, .bool false, .bool false, .bool false]) := Lib.hid (by rw [← hwd]; exact (G6.out.keep HSn.out).far (by show w.heap.size + 2 ≠ kK9; omega) _)
    have HBD : Hid (Below w.heap.size w wd) := Lib.hid (by rw [← hwd]; exact below_set (below_seq HBL.out HSn.out) (by show w.heap.size ≤ kK9; have := HBL.out.size; omega) _)
    clear hwd K9r G11 HSn g0 g1
    refine wp_region_held_drew (S := fun wx => Blk wx kK9 66 (pc (q, r.set n (decide (0 < b)))) ∧ Blk wx k11 104 #[.int .i64 (n : Int), .int .i64 b] ∧ (∃ z, z.size = 5 ∧ Blk wx (w.heap.size + 2) 66 z) ∧ Below w.heap.size w wx) (by kernel_rfl) (⟨KD.out, GD.out, ⟨_, rfl, G6n.out⟩, HBD.out.drew⟩) (fun hS => ?_)
    refine takeH (i := 0) (d := some 74) (v := .agg #[.int .i64 (q : Nat), .bool ((r.set n (decide (0 < b))).getD 0 false), .bool ((r.set n (decide (0 < b))).getD 1 false), .bool ((r.set n (decide (0 < b))).getD 2 false), .bool ((r.set n (decide (0 < b))).getD 3 false)]) rfl rfl (by kernel_rfl) (by kernel_rfl) (by kernel_rfl) (fun _ _ _ h => h) (yieldsIf_load_any (by rfl) 66 _ rfl ⟨kK9, 0, none⟩ rfl [.int .i64 (q : Nat), .bool ((r.set n (decide (0 < b))).getD 0 false), .bool ((r.set n (decide (0 < b))).getD 1 false), .bool ((r.set n (decide (0 < b))).getD 2 false), .bool ((r.set n (decide (0 < b))).getD 3 false)] _ (fun wx hSx => hSx.1.part 0 _ rfl) Try.underlying66 rfl (by kernel_rfl)) hS ?_
    simp only [Act.put, List.setIfInBounds_toArray, List.set_cons_zero, List.set_cons_succ]
    refine takeH (i := 1) (d := some 75) (v := ?_) rfl rfl (by kernel_rfl) (by kernel_rfl) (by kernel_rfl) (fun _ _ _ h => h) (Or.inl ⟨by rfl, ?_⟩) hS ?_
    rotate_left
    · intro wx hSx; clear hSx; first | (go_simp; done) | (go_simp; with_reducible rfl)
    simp only [Act.put, List.setIfInBounds_toArray, List.set_cons_zero, List.set_cons_succ]
    refine takeH (i := 2) (d := some 76) (v := ?_) rfl rfl (by kernel_rfl) (by kernel_rfl) (by kernel_rfl) (fun _ _ _ h => h) (Or.inl ⟨by rfl, ?_⟩) hS ?_
    rotate_left
    · intro wx hSx; have e0 : wx.cell? ⟨k11, 0, none⟩ = some (.int .i64 (n : Int)) := hSx.2.1.cell 0; have e1 : wx.cell? ⟨k11, 1, none⟩ = some (.int .i64 b) := hSx.2.1.cell 1; clear hSx; first | (go_simp; done) | (go_simp; with_reducible rfl)
    simp only [Act.put, List.setIfInBounds_toArray, List.set_cons_zero, List.set_cons_succ]
    refine takeH (i := 3) (d := some 77) (v := ?_) rfl rfl (by kernel_rfl) (by kernel_rfl) (by kernel_rfl) (fun _ _ _ h => h) (Or.inl ⟨by rfl, ?_⟩) hS ?_
    rotate_left
    · intro wx hSx; clear hSx; have hw1 := IntWalk.i64_in ((n : Int) * 1001) (by omega); have hw2 := IntWalk.i64_in ((n : Int) * 1001 + b) (by omega); first | (go_simp; done) | (go_simp; with_reducible rfl)
    simp only [Act.put, List.setIfInBounds_toArray, List.set_cons_zero, List.set_cons_succ]
    refine takeH (i := 4) (d := some 78) (v := ?_) rfl rfl (by kernel_rfl) (by kernel_rfl) (by kernel_rfl) (fun _ _ _ h => h) (Or.inl ⟨by rfl, ?_⟩) hS ?_
    rotate_left
    · intro wx hSx; clear hSx; first | (go_simp; done) | (go_simp; with_reducible rfl)
    simp only [Act.put, List.setIfInBounds_toArray, List.set_cons_zero, List.set_cons_succ]
    refine takeH (i := 5) (d := some 79) (v := ?_) rfl rfl (by kernel_rfl) (by kernel_rfl) (by kernel_rfl) (fun _ _ _ h => h) (Or.inl ⟨by rfl, ?_⟩) hS ?_
    rotate_left
    · intro wx hSx; have e0 : wx.cell? ⟨k11, 0, none⟩ = some (.int .i64 (n : Int)) := hSx.2.1.cell 0; have e1 : wx.cell? ⟨k11, 1, none⟩ = some (.int .i64 b) := hSx.2.1.cell 1; clear hSx; first | (go_simp; done) | (go_simp; with_reducible rfl)
    simp only [Act.put, List.setIfInBounds_toArray, List.set_cons_zero, List.set_cons_succ]
    refine takeH (i := 6) (d := some 80) (v := ?_) rfl rfl (by kernel_rfl) (by kernel_rfl) (by kernel_rfl) (fun _ _ _ h => h) (Or.inl ⟨by rfl, ?_⟩) hS ?_
    rotate_left
    · intro wx hSx; clear hSx; have hw1 := IntWalk.i64_in ((n : Int) * 1001) (by omega); have hw2 := IntWalk.i64_in ((n : Int) * 1001 + b) (by omega); first | (go_simp; done) | (go_simp; with_reducible rfl)
    simp only [Act.put, List.setIfInBounds_toArray, List.set_cons_zero, List.set_cons_succ]
    generalize hwa : World.drew _ = wa at hS ⊢
    clear hwa
    have HSa := Lib.hid hS
    clear hS
    refine wpAnyH_ready (rs := [7]) (by kernel_rfl) (by simp) ?_
    refine AllReadyH.cons rfl (fun K hK => ?_) AllReadyH.nil
    obtain ⟨z, hz, hz6⟩ := HSa.out.2.2.1
    rw [if_pos (by rfl)]
    refine wp_store_row 66 _ _ rfl (w.heap.size + 2) #[.int .i64 (q : Nat), .bool ((r.set n (decide (0 < b))).getD 0 false), .bool ((r.set n (decide (0 < b))).getD 1 false), .bool ((r.set n (decide (0 < b))).getD 2 false), .bool ((r.set n (decide (0 < b))).getD 3 false)] rfl rfl 66 _ hz6 (by kernel_rfl) (by rw [hz]; rfl) (by simp [Value.oneCell']) ?_
    refine hK.out _ _ ⟨far_row_blk HSa.out.1 (by omega), far_row_blk HSa.out.2.1 (by omega), ⟨_, rfl, set_row_blk hz6⟩, below_row HSa.out.2.2.2 (by omega) _⟩ (fun hS2 => ?_)
    clear hK K
    change wpAnyH _ _ _ _ _ _ _ (Act.put _ none _) _
    try simp only [Act.put]
    have G6e := Lib.hid (set_row_blk (cs' := #[.int .i64 (q : Nat), .bool ((r.set n (decide (0 < b))).getD 0 false), .bool ((r.set n (decide (0 < b))).getD 1 false), .bool ((r.set n (decide (0 < b))).getD 2 false), .bool ((r.set n (decide (0 < b))).getD 3 false)]) hz6)
    replace HSa := Lib.hid hS2
    clear hS2 hz6 hz z
    generalize World.setRow _ _ _ = wb at *
    clear wa
    rename World => wa
    refine takeH (i := 8) (d := some 7) (v := ?_) rfl rfl (by kernel_rfl) (by kernel_rfl) (by kernel_rfl) (fun _ _ _ h => h) (Or.inl ⟨by rfl, ?_⟩) HSa.out ?_
    rotate_left
    · intro wx hSx; clear hSx; first | (go_simp; done) | (go_simp; with_reducible rfl)
    simp only [Act.put, List.setIfInBounds_toArray, List.set_cons_zero, List.set_cons_succ]
    refine takeH (i := 9) (d := some 8) (v := ?_) rfl rfl (by kernel_rfl) (by kernel_rfl) (by kernel_rfl) (fun _ _ _ h => h) (Or.inl ⟨by rfl, ?_⟩) HSa.out ?_
    rotate_left
    · intro wx hSx; clear hSx; first | (go_simp; done) | (go_simp; with_reducible rfl)
    simp only [Act.put, List.setIfInBounds_toArray, List.set_cons_zero, List.set_cons_succ]
    refine wpAnyH_done (by kernel_rfl) ?_ _
    go_wp2_with fail
    refine ret_c3 G6e.out rfl rfl Try.underlying66 rfl (by kernel_rfl) rfl ?_
    exact ⟨by rw [HA.out.1, HA.out.2, HP.out]; rfl, HSa.out.2.2.2⟩
  obtain ⟨x, rfl⟩ : ∃ x, i = k + x := ⟨i - k, by omega⟩
  have hxT : x < T := by omega
  have hik' : (k : Int) ≤ (k : Int) + (x : Int) := by omega
  have hkx : (k : Int) + (x : Int) - (k : Int) = x := by omega
  have cbit := blk_bit (P4.out.keep HSa.out) (show x < 4 by omega)
  obtain ⟨y, hy⟩ : ∃ y, y = cf.2.getD x false := ⟨_, rfl⟩
  rw [← hy] at cbit
  cases y
  · have HP : Hid (Tm.poss k cf (k + x) = false) := Lib.hid (by unfold Tm.poss; rw [show k + x - k = x by omega, ← hy, decide_eq_false (by omega)]; rfl)
    have HI := Lib.hid (res_no (m := m) HP.out)
    have G6n := Lib.hid (G6.out.keep HSa.out)
    have P4n := Lib.hid (P4.out.keep HSa.out)
    clear hy
    go_upto_region 5 with fail
    clear cbit c0 bx
    go_wp2_with (first | (refine wpList_load_row rfl 66 _ rfl (w.heap.size + 1) rfl 66 #[.int .i64 (cf.1 : Nat), .bool (cf.2.getD 0 false), .bool (cf.2.getD 1 false), .bool (cf.2.getD 2 false), .bool (cf.2.getD 3 false)] (0, 0) _ P4n.out Try.underlying66 rfl (by kernel_rfl) ?_) | (refine wpList_store_row rfl 66 _ _ rfl (w.heap.size + 2) #[.int .i64 (cf.1 : Nat), .bool (cf.2.getD 0 false), .bool (cf.2.getD 1 false), .bool (cf.2.getD 2 false), .bool (cf.2.getD 3 false)] rfl rfl 66 _ G6n.out (by kernel_rfl) rfl (by simp [Value.oneCell']) ?_))
    refine ret_c3 (set_row_blk G6n.out) rfl rfl Try.underlying66 rfl (by kernel_rfl) rfl ?_
    exact ⟨by rw [HI.out.1, HI.out.2, HP.out]; rfl, below_row (below_seq HBL.out HSa.out) (by omega) _⟩
  · have HP : Hid (Tm.poss k cf (k + x) = true) := Lib.hid (by unfold Tm.poss; rw [show k + x - k = x by omega, ← hy]; simp)
    obtain ⟨r, hr⟩ : ∃ r, r = cf.2.set x false := ⟨_, rfl⟩
    have HR1 : Hid (Tm.run1 k cf (k + x) = r) := Lib.hid (by unfold Tm.run1; rw [if_neg (by omega), show k + x - k = x by omega, hr])
    have hrl : r.length = T := by rw [hr, List.length_set]; exact hcl
    have ck := blk_bit K9n.out (show x < 4 by omega)
    clear hy
    have fk := K9n.out.frozen (1 + x)
    go_upto_region 7 with fail
    clear c0 bx hik' hkx cbit ck fk
    generalize hwn : World.setCell _ _ _ = wn
    have K9r : Hid (Blk wn kK9 66 (pc (q, r))) := Lib.hid (by rw [← hwn, hr]; exact (K9n.out.set_ _ _).fit (pc_set (by omega) (by omega) _))
    have HSn : Hid (Below w0.heap.size w0 wn) := Lib.hid (by rw [← hwn]; exact below_set HSa.out hgeK9 _)
    clear hwn K9n HSa hr
    clear wa
    have bx := Lib.hid (BX.out.keep HSn.out)
    have c5 := bx.out.c5
    have p0 : wn.cell? ⟨w.heap.size + 1, 0, none⟩ = some (.int .i64 cf.1) := (P4.out.keep HSn.out).cell 0
    have cs := keep_cell HSn.out HCS.out.1
    have ca := keep_cell HSn.out HCS.out.2.1
    have cb := keep_cell HSn.out HCS.out.2.2
    go_upto_region 8 with (refine wpList_load_any rfl 104 _ rfl (gd1.add ((k + x) * 2)) rfl [.int .i64 a, .int .i64 b] _ (cells2' ca cb) Try.underlying104 rfl (by kernel_rfl) ?_)
    generalize hwc : World.alloc _ _ = wc
    have hbc : Below wn.heap.size wn wc := hwc ▸ (Below.refl _ _).alloc (Nat.le_refl _) _
    have G11 : Hid (Blk wc wn.heap.size 104 #[.int .i64 a, .int .i64 b]) := Lib.hid (by rw [← hwc]; exact Blk.new _ _ _)
    have hn11 : kK9 < wn.heap.size := K9r.out.lt
    have hn6 : w.heap.size + 2 < wn.heap.size := Nat.lt_of_lt_of_le HSZ.out HSn.out.size
    replace K9r := Lib.hid (K9r.out.keep hbc)
    replace HSn := Lib.hid (below_seq HSn.out hbc)
    have hne6 : w.heap.size + 2 ≠ kK9 := Nat.ne_of_lt (Nat.lt_of_lt_of_le HSZ.out hgeK9)
    generalize wn.heap.size = k11 at *
    have g0 : wc.cell? ⟨k11, 0, none⟩ = some (.int .i64 a) := G11.out.cell 0
    have g1 : wc.cell? ⟨k11, 1, none⟩ = some (.int .i64 b) := G11.out.cell 1
    clear hwc hbc c5 p0 cs ca cb bx wn
    rename World => wn
    by_cases q1 : a < 0
    · have d1 : decide (a < 0) = true := by simpa using q1
      have HI := Lib.hid (res_idle HP.out (by unfold Tm.acts; rw [HSE.out]; simp; omega))
      rw [HR1.out, HQ.out] at HI
      clear q1
      have G6n := Lib.hid (G6.out.keep HSn.out)
      go_upto_region 9 with fail
      clear g0 g1 d1
      go_wp2_with (first | (refine wpList_load_row rfl 66 _ rfl kK9 rfl 66 #[.int .i64 (q : Nat), .bool (r.getD 0 false), .bool (r.getD 1 false), .bool (r.getD 2 false), .bool (r.getD 3 false)] (0, 0) _ K9r.out Try.underlying66 rfl (by kernel_rfl) ?_) | (refine wpList_store_row rfl 66 _ _ rfl (w.heap.size + 2) #[.int .i64 (q : Nat), .bool (r.getD 0 false), .bool (r.getD 1 false), .bool (r.getD 2 false), .bool (r.getD 3 false)] rfl rfl 66 _ G6n.out (by kernel_rfl) rfl (by simp [Value.oneCell']) ?_))
      refine ret_c3 (set_row_blk G6n.out) rfl rfl Try.underlying66 rfl (by kernel_rfl) rfl ?_
      exact ⟨by rw [HI.out.1, HI.out.2, HP.out]; rfl, below_row (below_seq HBL.out HSn.out) (by omega) _⟩
    obtain ⟨n, rfl⟩ : ∃ n : Nat, a = n := ⟨a.toNat, by omega⟩
    have hnT : n < T := by omega
    have cbit := blk_bit K9r.out (show n < 4 by omega)
    by_cases q2 : b = 0
    · have d2 : (b == 0) = true := by simpa using q2
      obtain ⟨x, hx⟩ : ∃ x, x = r.getD n false := ⟨_, rfl⟩
      dsimp only at cbit
      rw [← hx] at cbit
      cases x
      · have HI := Lib.hid (res_idle HP.out (by unfold Tm.acts; rw [HSE.out, HR1.out]; simp only [Int.toNat_natCast]; rw [← hx, q2]; simp))
        rw [HR1.out, HQ.out] at HI
        clear hx
        have G6n := Lib.hid (G6.out.keep HSn.out)
        go_upto_region 9 with fail
        clear g0 g1 d2 cbit
        go_wp2_with (first | (refine wpList_load_row rfl 66 _ rfl kK9 rfl 66 #[.int .i64 (q : Nat), .bool (r.getD 0 false), .bool (r.getD 1 false), .bool (r.getD 2 false), .bool (r.getD 3 false)] (0, 0) _ K9r.out Try.underlying66 rfl (by kernel_rfl) ?_) | (refine wpList_store_row rfl 66 _ _ rfl (w.heap.size + 2) #[.int .i64 (q : Nat), .bool (r.getD 0 false), .bool (r.getD 1 false), .bool (r.getD 2 false), .bool (r.getD 3 false)] rfl rfl 66 _ G6n.out (by kernel_rfl) rfl (by simp [Value.oneCell']) ?_))
        refine ret_c3 (set_row_blk G6n.out) rfl rfl Try.underlying66 rfl (by kernel_rfl) rfl ?_
        exact ⟨by rw [HI.out.1, HI.out.2, HP.out]; rfl, below_row (below_seq HBL.out HSn.out) (by omega) _⟩
      · have HA := Lib.hid (res_act HP.out (by unfold Tm.acts; rw [HSE.out, HR1.out]; simp only [Int.toNat_natCast]; rw [← hx, q2]; simp))
        rw [HR1.out, HSE.out, HQ.out] at HA
        simp only [Int.toNat_natCast] at HA
        rw [show decide (0 < b) = false by rw [q2]; rfl] at HA
        clear hx
        have hn4 : n < 4 := by omega
        have ck := blk_bit K9r.out hn4
        have fk := K9r.out.frozen (1 + n)
        go_upto_region 11 with fail
        clear ck fk d2 q2 cbit
        generalize hwd : World.setCell _ _ _ = wd
        have KD : Hid (Blk wd kK9 66 (pc (q, r.set n false))) := Lib.hid (by rw [← hwd]; exact (K9r.out.set_ _ _).fit (pc_set (r := r) (x := n) (by omega) (by omega) _))
        have GD : Hid (Blk wd k11 104 #[.int .i64 (n : Int), .int .i64 b]) := Lib.hid (by rw [← hwd]; exact G11.out.far (by show k11 ≠ kK9; omega) _)
        have G6n : Hid (Blk wd (w.heap.size + 2) 66 #[.int .i64 0, .bool false, .bool false, .bool false, .bool false]) := Lib.hid (by rw [← hwd]; exact (G6.out.keep HSn.out).far (by show w.heap.size + 2 ≠ kK9; omega) _)
        have HBD : Hid (Below w.heap.size w wd) := Lib.hid (by rw [← hwd]; exact below_set (below_seq HBL.out HSn.out) (by show w.heap.size ≤ kK9; have := HBL.out.size; omega) _)
        clear hwd K9r G11 HSn g0 g1
        refine wp_region_held_drew (S := fun wx => Blk wx kK9 66 (pc (q, r.set n false)) ∧ Blk wx k11 104 #[.int .i64 (n : Int), .int .i64 b] ∧ (∃ z, z.size = 5 ∧ Blk wx (w.heap.size + 2) 66 z) ∧ Below w.heap.size w wx) (by kernel_rfl) (⟨KD.out, GD.out, ⟨_, rfl, G6n.out⟩, HBD.out.drew⟩) (fun hS => ?_)
        refine takeH (i := 0) (d := some 74) (v := .agg #[.int .i64 (q : Nat), .bool ((r.set n false).getD 0 false), .bool ((r.set n false).getD 1 false), .bool ((r.set n false).getD 2 false), .bool ((r.set n false).getD 3 false)]) rfl rfl (by kernel_rfl) (by kernel_rfl) (by kernel_rfl) (fun _ _ _ h => h) (yieldsIf_load_any (by rfl) 66 _ rfl ⟨kK9, 0, none⟩ rfl [.int .i64 (q : Nat), .bool ((r.set n false).getD 0 false), .bool ((r.set n false).getD 1 false), .bool ((r.set n false).getD 2 false), .bool ((r.set n false).getD 3 false)] _ (fun wx hSx => hSx.1.part 0 _ rfl) Try.underlying66 rfl (by kernel_rfl)) hS ?_
        simp only [Act.put, List.setIfInBounds_toArray, List.set_cons_zero, List.set_cons_succ]
        refine takeH (i := 1) (d := some 75) (v := ?_) rfl rfl (by kernel_rfl) (by kernel_rfl) (by kernel_rfl) (fun _ _ _ h => h) (Or.inl ⟨by rfl, ?_⟩) hS ?_
        rotate_left
        · intro wx hSx; clear hSx; first | (go_simp; done) | (go_simp; with_reducible rfl)
        simp only [Act.put, List.setIfInBounds_toArray, List.set_cons_zero, List.set_cons_succ]
        refine takeH (i := 2) (d := some 76) (v := ?_) rfl rfl (by kernel_rfl) (by kernel_rfl) (by kernel_rfl) (fun _ _ _ h => h) (Or.inl ⟨by rfl, ?_⟩) hS ?_
        rotate_left
        · intro wx hSx; have e0 : wx.cell? ⟨k11, 0, none⟩ = some (.int .i64 (n : Int)) := hSx.2.1.cell 0; have e1 : wx.cell? ⟨k11, 1, none⟩ = some (.int .i64 b) := hSx.2.1.cell 1; clear hSx; first | (go_simp; done) | (go_simp; with_reducible rfl)
        simp only [Act.put, List.setIfInBounds_toArray, List.set_cons_zero, List.set_cons_succ]
        refine takeH (i := 3) (d := some 77) (v := ?_) rfl rfl (by kernel_rfl) (by kernel_rfl) (by kernel_rfl) (fun _ _ _ h => h) (Or.inl ⟨by rfl, ?_⟩) hS ?_
        rotate_left
        · intro wx hSx; clear hSx; have hw1 := IntWalk.i64_in ((n : Int) * 1001) (by omega); have hw2 := IntWalk.i64_in ((n : Int) * 1001 + b) (by omega); first | (go_simp; done) | (go_simp; with_reducible rfl)
        simp only [Act.put, List.setIfInBounds_toArray, List.set_cons_zero, List.set_cons_succ]
        refine takeH (i := 4) (d := some 78) (v := ?_) rfl rfl (by kernel_rfl) (by kernel_rfl) (by kernel_rfl) (fun _ _ _ h => h) (Or.inl ⟨by rfl, ?_⟩) hS ?_
        rotate_left
        · intro wx hSx; clear hSx; first | (go_simp; done) | (go_simp; with_reducible rfl)
        simp only [Act.put, List.setIfInBounds_toArray, List.set_cons_zero, List.set_cons_succ]
        refine takeH (i := 5) (d := some 79) (v := ?_) rfl rfl (by kernel_rfl) (by kernel_rfl) (by kernel_rfl) (fun _ _ _ h => h) (Or.inl ⟨by rfl, ?_⟩) hS ?_
        rotate_left
        · intro wx hSx; have e0 : wx.cell? ⟨k11, 0, none⟩ = some (.int .i64 (n : Int)) := hSx.2.1.cell 0; have e1 : wx.cell? ⟨k11, 1, none⟩ = some (.int .i64 b) := hSx.2.1.cell 1; clear hSx; first | (go_simp; done) | (go_simp; with_reducible rfl)
        simp only [Act.put, List.setIfInBounds_toArray, List.set_cons_zero, List.set_cons_succ]
        refine takeH (i := 6) (d := some 80) (v := ?_) rfl rfl (by kernel_rfl) (by kernel_rfl) (by kernel_rfl) (fun _ _ _ h => h) (Or.inl ⟨by rfl, ?_⟩) hS ?_
        rotate_left
        · intro wx hSx; clear hSx; have hw1 := IntWalk.i64_in ((n : Int) * 1001) (by omega); have hw2 := IntWalk.i64_in ((n : Int) * 1001 + b) (by omega); first | (go_simp; done) | (go_simp; with_reducible rfl)
        simp only [Act.put, List.setIfInBounds_toArray, List.set_cons_zero, List.set_cons_succ]
        generalize hwa : World.drew _ = wa at hS ⊢
        clear hwa
        have HSa := Lib.hid hS
        clear hS
        refine wpAnyH_ready (rs := [7]) (by kernel_rfl) (by simp) ?_
        refine AllReadyH.cons rfl (fun K hK => ?_) AllReadyH.nil
        obtain ⟨z, hz, hz6⟩ := HSa.out.2.2.1
        rw [if_pos (by rfl)]
        refine wp_store_row 66 _ _ rfl (w.heap.size + 2) #[.int .i64 (q : Nat), .bool ((r.set n false).getD 0 false), .bool ((r.set n false).getD 1 false), .bool ((r.set n false).getD 2 false), .bool ((r.set n false).getD 3 false)] rfl rfl 66 _ hz6 (by kernel_rfl) (by rw [hz]; rfl) (by simp [Value.oneCell']) ?_
        refine hK.out _ _ ⟨far_row_blk HSa.out.1 (by omega), far_row_blk HSa.out.2.1 (by omega), ⟨_, rfl, set_row_blk hz6⟩, below_row HSa.out.2.2.2 (by omega) _⟩ (fun hS2 => ?_)
        clear hK K
        change wpAnyH _ _ _ _ _ _ _ (Act.put _ none _) _
        try simp only [Act.put]
        have G6e := Lib.hid (set_row_blk (cs' := #[.int .i64 (q : Nat), .bool ((r.set n false).getD 0 false), .bool ((r.set n false).getD 1 false), .bool ((r.set n false).getD 2 false), .bool ((r.set n false).getD 3 false)]) hz6)
        replace HSa := Lib.hid hS2
        clear hS2 hz6 hz z
        generalize World.setRow _ _ _ = wb at *
        clear wa
        rename World => wa
        refine takeH (i := 8) (d := some 7) (v := ?_) rfl rfl (by kernel_rfl) (by kernel_rfl) (by kernel_rfl) (fun _ _ _ h => h) (Or.inl ⟨by rfl, ?_⟩) HSa.out ?_
        rotate_left
        · intro wx hSx; clear hSx; first | (go_simp; done) | (go_simp; with_reducible rfl)
        simp only [Act.put, List.setIfInBounds_toArray, List.set_cons_zero, List.set_cons_succ]
        refine takeH (i := 9) (d := some 8) (v := ?_) rfl rfl (by kernel_rfl) (by kernel_rfl) (by kernel_rfl) (fun _ _ _ h => h) (Or.inl ⟨by rfl, ?_⟩) HSa.out ?_
        rotate_left
        · intro wx hSx; clear hSx; first | (go_simp; done) | (go_simp; with_reducible rfl)
        simp only [Act.put, List.setIfInBounds_toArray, List.set_cons_zero, List.set_cons_succ]
        refine wpAnyH_done (by kernel_rfl) ?_ _
        go_wp2_with fail
        refine ret_c3 G6e.out rfl rfl Try.underlying66 rfl (by kernel_rfl) rfl ?_
        exact ⟨by rw [HA.out.1, HA.out.2, HP.out]; rfl, HSa.out.2.2.2⟩
    have d2 : (b == 0) = false := by simpa using q2
    have HA := Lib.hid (res_act HP.out (by unfold Tm.acts; rw [HSE.out]; simp; exact .inl q2))
    rw [HR1.out, HSE.out, HQ.out] at HA
    simp only [Int.toNat_natCast] at HA

    have hn4 : n < 4 := by omega
    have ck := blk_bit K9r.out hn4
    have fk := K9r.out.frozen (1 + n)
    go_upto_region 11 with fail
    clear ck fk d2 cbit
    generalize hwd : World.setCell _ _ _ = wd
    have KD : Hid (Blk wd kK9 66 (pc (q, r.set n (decide (0 < b))))) := Lib.hid (by rw [← hwd]; exact (K9r.out.set_ _ _).fit (pc_set (r := r) (x := n) (by omega) (by omega) _))
    have GD : Hid (Blk wd k11 104 #[.int .i64 (n : Int), .int .i64 b]) := Lib.hid (by rw [← hwd]; exact G11.out.far (by show k11 ≠ kK9; omega) _)
    have G6n : Hid (Blk wd (w.heap.size + 2) 66 #[.int .i64 0, .bool false, .bool false, .bool false, .bool false]) := Lib.hid (by rw [← hwd]; exact (G6.out.keep HSn.out).far (by show w.heap.size + 2 ≠ kK9; omega) _)
    have HBD : Hid (Below w.heap.size w wd) := Lib.hid (by rw [← hwd]; exact below_set (below_seq HBL.out HSn.out) (by show w.heap.size ≤ kK9; have := HBL.out.size; omega) _)
    clear hwd K9r G11 HSn g0 g1
    refine wp_region_held_drew (S := fun wx => Blk wx kK9 66 (pc (q, r.set n (decide (0 < b)))) ∧ Blk wx k11 104 #[.int .i64 (n : Int), .int .i64 b] ∧ (∃ z, z.size = 5 ∧ Blk wx (w.heap.size + 2) 66 z) ∧ Below w.heap.size w wx) (by kernel_rfl) (⟨KD.out, GD.out, ⟨_, rfl, G6n.out⟩, HBD.out.drew⟩) (fun hS => ?_)
    refine takeH (i := 0) (d := some 74) (v := .agg #[.int .i64 (q : Nat), .bool ((r.set n (decide (0 < b))).getD 0 false), .bool ((r.set n (decide (0 < b))).getD 1 false), .bool ((r.set n (decide (0 < b))).getD 2 false), .bool ((r.set n (decide (0 < b))).getD 3 false)]) rfl rfl (by kernel_rfl) (by kernel_rfl) (by kernel_rfl) (fun _ _ _ h => h) (yieldsIf_load_any (by rfl) 66 _ rfl ⟨kK9, 0, none⟩ rfl [.int .i64 (q : Nat), .bool ((r.set n (decide (0 < b))).getD 0 false), .bool ((r.set n (decide (0 < b))).getD 1 false), .bool ((r.set n (decide (0 < b))).getD 2 false), .bool ((r.set n (decide (0 < b))).getD 3 false)] _ (fun wx hSx => hSx.1.part 0 _ rfl) Try.underlying66 rfl (by kernel_rfl)) hS ?_
    simp only [Act.put, List.setIfInBounds_toArray, List.set_cons_zero, List.set_cons_succ]
    refine takeH (i := 1) (d := some 75) (v := ?_) rfl rfl (by kernel_rfl) (by kernel_rfl) (by kernel_rfl) (fun _ _ _ h => h) (Or.inl ⟨by rfl, ?_⟩) hS ?_
    rotate_left
    · intro wx hSx; clear hSx; first | (go_simp; done) | (go_simp; with_reducible rfl)
    simp only [Act.put, List.setIfInBounds_toArray, List.set_cons_zero, List.set_cons_succ]
    refine takeH (i := 2) (d := some 76) (v := ?_) rfl rfl (by kernel_rfl) (by kernel_rfl) (by kernel_rfl) (fun _ _ _ h => h) (Or.inl ⟨by rfl, ?_⟩) hS ?_
    rotate_left
    · intro wx hSx; have e0 : wx.cell? ⟨k11, 0, none⟩ = some (.int .i64 (n : Int)) := hSx.2.1.cell 0; have e1 : wx.cell? ⟨k11, 1, none⟩ = some (.int .i64 b) := hSx.2.1.cell 1; clear hSx; first | (go_simp; done) | (go_simp; with_reducible rfl)
    simp only [Act.put, List.setIfInBounds_toArray, List.set_cons_zero, List.set_cons_succ]
    refine takeH (i := 3) (d := some 77) (v := ?_) rfl rfl (by kernel_rfl) (by kernel_rfl) (by kernel_rfl) (fun _ _ _ h => h) (Or.inl ⟨by rfl, ?_⟩) hS ?_
    rotate_left
    · intro wx hSx; clear hSx; have hw1 := IntWalk.i64_in ((n : Int) * 1001) (by omega); have hw2 := IntWalk.i64_in ((n : Int) * 1001 + b) (by omega); first | (go_simp; done) | (go_simp; with_reducible rfl)
    simp only [Act.put, List.setIfInBounds_toArray, List.set_cons_zero, List.set_cons_succ]
    refine takeH (i := 4) (d := some 78) (v := ?_) rfl rfl (by kernel_rfl) (by kernel_rfl) (by kernel_rfl) (fun _ _ _ h => h) (Or.inl ⟨by rfl, ?_⟩) hS ?_
    rotate_left
    · intro wx hSx; clear hSx; first | (go_simp; done) | (go_simp; with_reducible rfl)
    simp only [Act.put, List.setIfInBounds_toArray, List.set_cons_zero, List.set_cons_succ]
    refine takeH (i := 5) (d := some 79) (v := ?_) rfl rfl (by kernel_rfl) (by kernel_rfl) (by kernel_rfl) (fun _ _ _ h => h) (Or.inl ⟨by rfl, ?_⟩) hS ?_
    rotate_left
    · intro wx hSx; have e0 : wx.cell? ⟨k11, 0, none⟩ = some (.int .i64 (n : Int)) := hSx.2.1.cell 0; have e1 : wx.cell? ⟨k11, 1, none⟩ = some (.int .i64 b) := hSx.2.1.cell 1; clear hSx; first | (go_simp; done) | (go_simp; with_reducible rfl)
    simp only [Act.put, List.setIfInBounds_toArray, List.set_cons_zero, List.set_cons_succ]
    refine takeH (i := 6) (d := some 80) (v := ?_) rfl rfl (by kernel_rfl) (by kernel_rfl) (by kernel_rfl) (fun _ _ _ h => h) (Or.inl ⟨by rfl, ?_⟩) hS ?_
    rotate_left
    · intro wx hSx; clear hSx; have hw1 := IntWalk.i64_in ((n : Int) * 1001) (by omega); have hw2 := IntWalk.i64_in ((n : Int) * 1001 + b) (by omega); first | (go_simp; done) | (go_simp; with_reducible rfl)
    simp only [Act.put, List.setIfInBounds_toArray, List.set_cons_zero, List.set_cons_succ]
    generalize hwa : World.drew _ = wa at hS ⊢
    clear hwa
    have HSa := Lib.hid hS
    clear hS
    refine wpAnyH_ready (rs := [7]) (by kernel_rfl) (by simp) ?_
    refine AllReadyH.cons rfl (fun K hK => ?_) AllReadyH.nil
    obtain ⟨z, hz, hz6⟩ := HSa.out.2.2.1
    rw [if_pos (by rfl)]
    refine wp_store_row 66 _ _ rfl (w.heap.size + 2) #[.int .i64 (q : Nat), .bool ((r.set n (decide (0 < b))).getD 0 false), .bool ((r.set n (decide (0 < b))).getD 1 false), .bool ((r.set n (decide (0 < b))).getD 2 false), .bool ((r.set n (decide (0 < b))).getD 3 false)] rfl rfl 66 _ hz6 (by kernel_rfl) (by rw [hz]; rfl) (by simp [Value.oneCell']) ?_
    refine hK.out _ _ ⟨far_row_blk HSa.out.1 (by omega), far_row_blk HSa.out.2.1 (by omega), ⟨_, rfl, set_row_blk hz6⟩, below_row HSa.out.2.2.2 (by omega) _⟩ (fun hS2 => ?_)
    clear hK K
    change wpAnyH _ _ _ _ _ _ _ (Act.put _ none _) _
    try simp only [Act.put]
    have G6e := Lib.hid (set_row_blk (cs' := #[.int .i64 (q : Nat), .bool ((r.set n (decide (0 < b))).getD 0 false), .bool ((r.set n (decide (0 < b))).getD 1 false), .bool ((r.set n (decide (0 < b))).getD 2 false), .bool ((r.set n (decide (0 < b))).getD 3 false)]) hz6)
    replace HSa := Lib.hid hS2
    clear hS2 hz6 hz z
    generalize World.setRow _ _ _ = wb at *
    clear wa
    rename World => wa
    refine takeH (i := 8) (d := some 7) (v := ?_) rfl rfl (by kernel_rfl) (by kernel_rfl) (by kernel_rfl) (fun _ _ _ h => h) (Or.inl ⟨by rfl, ?_⟩) HSa.out ?_
    rotate_left
    · intro wx hSx; clear hSx; first | (go_simp; done) | (go_simp; with_reducible rfl)
    simp only [Act.put, List.setIfInBounds_toArray, List.set_cons_zero, List.set_cons_succ]
    refine takeH (i := 9) (d := some 8) (v := ?_) rfl rfl (by kernel_rfl) (by kernel_rfl) (by kernel_rfl) (fun _ _ _ h => h) (Or.inl ⟨by rfl, ?_⟩) HSa.out ?_
    rotate_left
    · intro wx hSx; clear hSx; first | (go_simp; done) | (go_simp; with_reducible rfl)
    simp only [Act.put, List.setIfInBounds_toArray, List.set_cons_zero, List.set_cons_succ]
    refine wpAnyH_done (by kernel_rfl) ?_ _
    go_wp2_with fail
    refine ret_c3 G6e.out rfl rfl Try.underlying66 rfl (by kernel_rfl) rfl ?_
    exact ⟨by rw [HA.out.1, HA.out.2, HP.out]; rfl, HSa.out.2.2.2⟩
end Go.Proofs.Ytpcoddbkcelaoaa
