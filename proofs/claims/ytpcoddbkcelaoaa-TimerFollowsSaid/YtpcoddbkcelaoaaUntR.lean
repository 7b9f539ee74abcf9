/- The reference's machine without time. -/
import Derived.Test.YtpcoddbkcelaoaaRch
import Derived.Test.YtpcoddbkcelaoaaSml
import Derived.Test.YtpcoddbkcelaoaaKt
import Derived.Test.YtpcoddbkcelaoaaTim3
import Derived.Test.YtpcoddbkcelaoaaTVal
namespace Go.Proofs.Ytpcoddbkcelaoaa
open Go.RowKit

/-- the machine without time: error, number of symbols, tables: of any machine -/
def untE (m : Tm.M) : Int × Int × List (List Int) × List (List Int) :=
  if Tm.validE m ≠ 0 then (Tm.validE m, 0, [], [])
  else if (Tm.unt m m.I.toNat m.T.toNat m.S.toNat).1 ≠ 0 then ((Tm.unt m m.I.toNat m.T.toNat m.S.toNat).1, 0, [], [])
  else (0, m.I + m.T, (Tm.unt m m.I.toNat m.T.toNat m.S.toNat).2.1, (Tm.unt m m.I.toNat m.T.toNat m.S.toNat).2.2)
theorem untE_bad {m : Tm.M} (h : Tm.validE m ≠ 0) : untE m = (Tm.validE m, 0, [], []) := by unfold untE; rw [if_pos h]
theorem untE_err {m : Tm.M} {k T S : Nat} (h : Tm.Ok m k T S) {e : Int} (he : e ≠ 0) (hr : Tm.unt m k T S = (e, [], [])) : untE m = (e, 0, [], []) := by
  unfold untE
  rw [h.I, h.T', h.S', if_neg (by simp [h.valid])]
  simp only [Int.toNat_natCast]
  rw [hr, if_pos he]
theorem untE_ok {m : Tm.M} {k T S : Nat} (h : Tm.Ok m k T S) {nx out : List (List Int)} (hr : Tm.unt m k T S = (0, nx, out)) : untE m = (0, (k : Int) + (T : Int), nx, out) := by
  unfold untE
  rw [h.I, h.T', h.S', if_neg (by simp [h.valid])]
  simp only [Int.toNat_natCast]
  rw [hr, if_neg (by simp)]
/-- what Untimed hands back -/
def UntP (X : Int × Int × List (List Int) × List (List Int)) (w : World) (r : Ending) (w' : World) : Prop :=
  (∃ A B c d, r = .returned (.tuple #[.agg #[.int .i64 X.2.1, .int .i64 0, .slice A X.2.2.1.length c, .slice B X.2.2.2.length d], .int .i64 X.1]) ∧ RdM .i64 w' A X.2.2.1 ∧ RdM .i64 w' B X.2.2.2) ∧ Below w.heap.size w w'
theorem UntP_err {e : Int} {w w' : World} {r : Ending} (h : r = .returned (.tuple #[.agg #[.int .i64 0, .int .i64 0, .slice none 0 0, .slice none 0 0], .int .i64 e])) (hb : Below w.heap.size w w') : UntP (e, 0, [], []) w r w' :=
  ⟨⟨none, none, 0, 0, h, ⟨Nat.zero_le _, fun h => absurd h (Nat.lt_irrefl 0)⟩, ⟨Nat.zero_le _, fun h => absurd h (Nat.lt_irrefl 0)⟩⟩, hb⟩
theorem OwnC.kt {w w' : World} {bad : Obj → Prop} {base T : Nat} {v : Value} {q : List (Tm.Cfg × Nat)} (h : OwnC w base T v q) (hk : Kt bad w w') (h1 : ∀ cs p, ¬ bad (.cells cs 74 p)) (h2 : ∀ cs p, ¬ bad (.cells cs 4 p)) : OwnC w' base T v q :=
  ⟨own_kt h.own hk h1, fun i p hp => ⟨row_kt (h.row i p hp).1 hk h2, (h.row i p hp).2⟩, h.ge⟩
theorem app_kt {w w' : World} {base e size n : Nat} {v : Value} {xs : List Value} {o : Obj} (h : w.ownsRow base e size v n xs) (hg : (w.alloc o).grownBy w' v.ownBlock) : Kt (isT e) w w' :=
  (Kt.below ((Below.refl _ _).alloc (Nat.le_refl _) _)).trans (Kt.grown hg (own_bad (h.alloc o)))
/-- rows of a table of the call's own are not long -/
theorem short_rows {nx : List (List Int)} {n : Nat} (h : ∀ s, s < nx.length → (nx.getD s []).length = n) (hn : n ≤ 64) : ∀ i, i < nx.length → (nx.getD i []).length ≤ 1152921504606846976 := fun i hi => by have := h i hi; omega
section
variable {P : Program} {ops : Array Oper} {rest : List Oper} {o : Oper} {a : Act} {w : World} {Q : Exit → Act → World → Prop}
theorem wp_app_run {K : Act → World → Prop} (s x : Operand) (t : TypeId) (ho : o.op = .call { callee := .builtin .append, args := #[s, x], argTypes := #[t, t] }) {v' : Value} {w' : World} (hr : (Builtin.append_ #[t, t] o.type #[a.eval s, a.eval x]).run P w = .ok v' w')
    (h : K (a.put o.dst v') w') : o.wp P a w K Q := by
  unfold Oper.wp execOp
  simp only [ho, resolve, invoke, builtin, Sem.run_bind, Sem.run_pure, Result.andThen_ok, List.map_toArray, List.map_cons, List.map_nil, hr]
  exact h
theorem wpList_app_run (hgd : o.guard = none) (s x : Operand) (t : TypeId) (ho : o.op = .call { callee := .builtin .append, args := #[s, x], argTypes := #[t, t] }) {v' : Value} {w' : World} (hr : (Builtin.append_ #[t, t] o.type #[a.eval s, a.eval x]).run P w = .ok v' w')
    (h : wpList P ops Q rest (a.put o.dst v') w') : wpList P ops Q (o :: rest) a w :=
  wpList_plain hgd fun _ hK => wp_app_run s x t ho hr (hK _ _ h)
end
set_option maxRecDepth 100000 in
set_option maxHeartbeats 8000000 in
theorem untimed_r (m : Tm.M) (A B C : Option Addr) (c d e : Nat) (w : World) (hR : RdT w A B C m) :
    Calls Try.prog 20 #[.agg #[.int .i64 m.I, .int .i64 m.T, .int .i64 m.S, .slice A m.nx.length c, .slice B m.out.length d, .slice C m.set.length e]] w (UntP (untE m) w) := by
  have HR := Lib.hid hR
  clear hR
  go_enter Try.func20, Try.ntmps20
  go_upto_region 1 with fail
  generalize hwb : World.alloc _ _ = w0
  have BX : Hid (Blk w0 w.heap.size 25 (tc m A c B d C e)) := Lib.hid (by rw [← hwb]; exact (Blk.new _ _ _).alloc _)
  have Y2 : Hid (Blk w0 (w.heap.size + 1) 46 #[.int .i64 0, .int .i64 0, .slice none 0 0, .slice none 0 0]) := Lib.hid (by rw [← hwb]; have := Blk.new (w.alloc (.cells (tc m A c B d C e) 25)) 46 #[.int .i64 0, .int .i64 0, .slice none 0 0, .slice none 0 0]; rw [asize] at this; exact this)
  have HBL : Hid (Below w.heap.size w w0) := Lib.hid (by rw [← hwb]; exact ((Below.refl _ _).alloc (Nat.le_refl _) _).alloc (by rw [asize]; omega) _)
  clear hwb
  go_wp2_with (first | (refine wpList_load_row rfl 25 _ rfl w.heap.size rfl 25 (tc m A c B d C e) (0, 0) _ BX.out Try.underlying25 rfl (by kernel_rfl) ?_))
  refine (tvalid_r m A B C c d e w0 (HR.out.keep HBL.out)).mono ?_
  rintro r w1 ⟨rfl, hb⟩
  replace BX := Lib.hid (BX.out.keep hb)
  replace Y2 := Lib.hid (Y2.out.keep hb)
  replace HBL := Lib.hid (below_seq HBL.out hb)
  have hy1 : w.heap.size ≤ w.heap.size + 1 := by omega
  clear hb w0
  by_cases hv : Tm.validE m = 0
  rotate_left
  · have HV := Lib.hid (untE_bad hv)
    obtain ⟨q, hq⟩ : ∃ q, q = Tm.validE m := ⟨_, rfl⟩
    rw [← hq] at hv HV ⊢
    have hbz : (q != 0) = true := by rw [bne_iff_ne]; exact hv
    clear hv hq
    go_wp2_with (first | (refine wpList_store_row rfl 46 _ _ rfl (w.heap.size + 1) #[.int .i64 0, .int .i64 0, .slice none 0 0, .slice none 0 0] rfl rfl 46 _ Y2.out (by kernel_rfl) rfl (by simp [Value.oneCell']) ?_))
    refine ret_c2 (set_row_blk Y2.out) rfl rfl Try.underlying46 rfl (by kernel_rfl) rfl ?_
    rw [HV.out]
    exact UntP_err rfl (below_row HBL.out hy1 _)
  rw [hv]
  obtain ⟨k, T, S, hok⟩ := Tm.ok_of hv
  have HM := Lib.hid hok
  have h4 := hok.t4
  have h64 := hok.k64
  have h128 := hok.n128
  clear hv hok
  have HT := Lib.hid (HR.out.keep HBL.out)
  clear HR
  have BT := Lib.hid (boxT BX.out)
  have c0 := BT.out.c0
  rw [HM.out.I] at c0
  have c1 := BT.out.c1
  rw [HM.out.T'] at c1
  have c2 := BT.out.c2
  rw [HM.out.S'] at c2
  have c4 := BT.out.c4
  have HC0 : Hid (∀ wz, Below w1.heap.size w1 wz → Blk wz w.heap.size 25 (tc m A c B d C e)) := Lib.hid (fun wz hz => BX.out.keep hz)
  have HY0 : Hid (∀ wz, Below w1.heap.size w1 wz → Blk wz (w.heap.size + 1) 46 #[.int .i64 0, .int .i64 0, .slice none 0 0, .slice none 0 0]) := Lib.hid (fun wz hz => Y2.out.keep hz)
  have hmk1 := run_make_row' (P := Try.prog) 62 4 (.bool false) 1 Try.underlying62 info4 rfl .i64 .i64 T (by omega) (by omega)
  clear BT Y2
  go_upto_region 4 with fail
  go_cut [5] (fun v wx => ∃ g r, v = .slice (some ⟨g, 0, none⟩) 1 1 ∧ Blk wx g 74 #[.int .i64 ((Tm.c0 S T).1 : Nat), .slice (some ⟨r, 0, none⟩) T T] ∧ wx.rowIs r 4 T (bits (Tm.c0 S T).2) ∧ w1.heap.size ≤ g ∧ w1.heap.size ≤ r ∧ Below w1.heap.size w1 wx)
  case first =>
    refine wp_region_held_drew (S := fun wx => Below w1.heap.size w1 wx) (by kernel_rfl) ((Below.refl _ _).drew) (fun hS => ?_)
    refine takeH (i := 0) (d := some 21) (v := ?_) rfl rfl (by kernel_rfl) (by kernel_rfl) (by kernel_rfl) (fun _ _ _ h => h) (Or.inl ⟨by rfl, ?_⟩) hS ?_
    rotate_left
    · intro wx hSx; clear hSx; first | (go_simp; done) | (go_simp; with_reducible rfl)
    simp only [Act.put, List.setIfInBounds_toArray, List.set_cons_zero, List.set_cons_succ]
    refine takeH (i := 1) (d := some 22) (v := ?_) rfl rfl (by kernel_rfl) (by kernel_rfl) (by kernel_rfl) (fun _ _ _ h => h) (Or.inl ⟨by rfl, ?_⟩) hS ?_
    rotate_left
    · intro wx hSx; have hSy : Below w1.heap.size w1 wx := hSx; have e0 := keep_cell hSy c2; have e1 := keep_cell hSy c1; clear hSy hSx; first | (go_simp; done) | (go_simp; with_reducible rfl)
    simp only [Act.put, List.setIfInBounds_toArray, List.set_cons_zero, List.set_cons_succ]
    refine takeH (i := 2) (d := some 23) (v := ?_) rfl rfl (by kernel_rfl) (by kernel_rfl) (by kernel_rfl) (fun _ _ _ h => h) (Or.inl ⟨by rfl, ?_⟩) hS ?_
    rotate_left
    · intro wx hSx; clear hSx; first | (go_simp; done) | (go_simp; with_reducible rfl)
    simp only [Act.put, List.setIfInBounds_toArray, List.set_cons_zero, List.set_cons_succ]
    refine takeH (i := 3) (d := some 24) (v := ?_) rfl rfl (by kernel_rfl) (by kernel_rfl) (by kernel_rfl) (fun _ _ _ h => h) (Or.inl ⟨by rfl, ?_⟩) hS ?_
    rotate_left
    · intro wx hSx; have hSy : Below w1.heap.size w1 wx := hSx; have e0 := keep_cell hSy c2; have e1 := keep_cell hSy c1; clear hSy hSx; first | (go_simp; done) | (go_simp; with_reducible rfl)
    simp only [Act.put, List.setIfInBounds_toArray, List.set_cons_zero, List.set_cons_succ]
    generalize hwa : World.drew _ = wa at hS ⊢
    clear hwa
    have HSa := Lib.hid hS
    clear hS
    refine wpAnyH_ready (rs := [4]) (by kernel_rfl) (by simp) ?_
    refine AllReadyH.cons rfl (fun K hK => ?_) AllReadyH.nil
    rw [if_pos (by rfl)]
    go_simp
    refine hK.out _ _ (Below.alloc HSa.out HSa.out.size _) (fun hS2 => ?_)
    clear hK K
    try simp only [Act.put, List.setIfInBounds_toArray, List.set_cons_zero, List.set_cons_succ]
    generalize hwb : World.alloc _ _ = wb at hS2 ⊢
    have R1 : Hid (wb.rowIs wa.heap.size 4 T (fun _ => .bool false)) := Lib.hid (by rw [← hwb]; exact World.rowIs_made _ _ _ _)
    have hgeR : w1.heap.size ≤ wa.heap.size := HSa.out.size
    replace HSa := Lib.hid hS2
    generalize wa.heap.size = gR1 at *
    clear hS2 hwb
    rename World => wa
    refine takeH (i := 5) (d := some 26) (v := ?_) rfl rfl (by kernel_rfl) (by kernel_rfl) (by kernel_rfl) (fun _ _ _ h => h) (Or.inl ⟨by rfl, ?_⟩) HSa.out ?_
    rotate_left
    · intro wx hSx; clear hSx; first | (go_simp; done) | (go_simp; with_reducible rfl)
    simp only [Act.put, List.setIfInBounds_toArray, List.set_cons_zero, List.set_cons_succ]
    refine wpAnyH_ready (rs := [6]) (by kernel_rfl) (by simp) ?_
    refine AllReadyH.cons rfl (fun K hK => ?_) AllReadyH.nil
    rw [if_pos (by rfl)]
    go_simp
    refine hK.out _ _ (Below.alloc HSa.out HSa.out.size _) (fun hS2 => ?_)
    clear hK K
    try simp only [Act.put, List.setIfInBounds_toArray, List.set_cons_zero, List.set_cons_succ]
    generalize hwb : World.alloc _ _ = wb at hS2 ⊢
    have hal : Below wa.heap.size wa wb := by rw [← hwb]; exact (Below.refl _ _).alloc (Nat.le_refl _) _
    replace R1 := Lib.hid (rowIs_keep R1.out hal)
    have K14 : Hid (Blk wb wa.heap.size 74 #[.int .i64 (S : Nat), .slice (some ⟨gR1, 0, none⟩) T T]) := Lib.hid (by rw [← hwb]; exact Blk.new _ _ _)
    have hge : w1.heap.size ≤ wa.heap.size := HSa.out.size
    replace HSa := Lib.hid hS2
    generalize wa.heap.size = gK at *
    clear hS2 hwb hal
    rename World => wa
    refine takeH (i := 7) (d := some 5) (v := ?_) rfl rfl (by kernel_rfl) (by kernel_rfl) (by kernel_rfl) (fun _ _ _ h => h) (Or.inl ⟨by rfl, ?_⟩) HSa.out ?_
    rotate_left
    · intro wx hSx; clear hSx; first | (go_simp; done) | (go_simp; with_reducible rfl)
    simp only [Act.put, List.setIfInBounds_toArray, List.set_cons_zero, List.set_cons_succ]
    refine wpAnyH_done (by kernel_rfl) ?_ _
    go_wp2_with fail
    go_meet
    exact ⟨gK, gR1, rfl, K14.out, R1.out.congr (fun x hx => by show _ = Value.bool ((List.replicate T false).getD x false); rw [List.getD_eq_getElem?_getD, List.getElem?_replicate, if_pos hx]; rfl), hge, hgeR, HSa.out⟩
  case rest =>
  obtain ⟨g0, r0, rfl, hk, hr, hg0, hr0, hbx⟩ := hcut
  rename World => wa
  try apply_assumption
  have HO0 := Lib.hid (OwnC.one (base := w1.heap.size) hg0 hk hr (by simp [Tm.c0]) hr0)
  have HB0 := Lib.hid hbx
  clear hk hr hbx hmk1 c2
  have b0 := keep_cell HB0.out c0
  have b1 := keep_cell HB0.out c1
  have KZ := Blk.new wa 46 #[.int .i64 0, .int .i64 0, .slice none 0 0, .slice none 0 0]
  go_upto_region 6 with (first | (refine wpList_store_row rfl 46 _ _ rfl wa.heap.size #[.int .i64 ((k : Int) + (T : Int)), .int .i64 0, .slice none 0 0, .slice none 0 0] rfl rfl 46 _ KZ (by kernel_rfl) rfl (by simp [Value.oneCell']) ?_))
  generalize hwb : World.setRow _ _ _ = wq
  have hal : Below wa.heap.size wa wq := by rw [← hwb]; exact below_row ((Below.refl _ _).alloc (Nat.le_refl _) _) (Nat.le_refl _) _
  have Y6 : Hid (Blk wq wa.heap.size 46 #[.int .i64 ((k : Int) + (T : Int)), .int .i64 0, .slice none 0 0, .slice none 0 0]) := Lib.hid (by rw [← hwb]; exact set_row_blk KZ)
  have hp6 : w1.heap.size ≤ wa.heap.size := HB0.out.size
  replace HO0 := Lib.hid (HO0.out.keep hal)
  replace HB0 := Lib.hid (below_seq HB0.out hal)
  clear hwb hal KZ b0 b1
  generalize wa.heap.size = p6 at *
  clear wa
  have HS0 := Lib.hid (Tm.USea.start HM.out)
  have HT0 : Hid (UTab wq w1.heap.size (.slice none 0 0) (.slice none 0 0) [] []) := Lib.hid (UTab.nil _ _)
  go_upto_region 7 with fail
  go_loopw [5, 7] (fun v a wr => ∃ (j : Nat) (q : List (Tm.Cfg × Nat)) (vn vo : Value) (nx out : List (List Int)), a = .int .i64 j ∧ Hid (OwnC wr w1.heap.size T v q) ∧ Hid (UTab wr w1.heap.size vn vo nx out) ∧ Hid (Blk wr p6 46 #[.int .i64 ((k : Int) + (T : Int)), .int .i64 0, vn, vo]) ∧ Hid (Tm.USea m k T S (Tm.unt m k T S) j (q.map (·.1)) nx out) ∧ Hid (Below w1.heap.size w1 wr)) (fun _ a _ => 3000 - (intOf a).toNat)
  case atStart => exact ⟨0, _, _, _, [], [], rfl, HO0, HT0, Y6, HS0, HB0⟩
  case round =>
    clear HO0 HT0 Y6 HS0 HB0
    obtain ⟨j, q, vn, vo, nx, out, rfl, HO, HU, Y6, HS, HB⟩ := hrel
    obtain ⟨E, cE, rfl⟩ := own_slice HO.out.own
    have hql : q.length ≤ 128 := by have := HS.out.q128; rw [List.length_map] at this; exact this
    by_cases hj : j < q.length
    rotate_left
    · have hj' : ¬ (j : Int) < (q.length : Int) := by omega
      have hjm : ¬ j < (q.map (·.1)).length := by rw [List.length_map]; exact hj
      have HF := Lib.hid (untE_ok HM.out (HS.out.fin hjm))
      have HOK := Lib.hid (HS.out.valid HM.out hjm)
      obtain ⟨A1, d1, rfl⟩ := HU.out.n.slice
      obtain ⟨A2, d2, rfl⟩ := HU.out.o.slice
      have Y2 := HY0.out wr HB.out
      clear hjm
      go_wp2_with (first | (refine wpList_load_row rfl 46 _ rfl p6 rfl 46 (#[.int .i64 ((k : Int) + (T : Int)), .int .i64 0, .slice A1 nx.length d1, .slice A2 out.length d2]) (0, 0) _ Y6.out Try.underlying46 rfl (by kernel_rfl) ?_) | (refine wpList_store_row rfl 46 _ _ rfl (w.heap.size + 1) #[.int .i64 ((k : Int) + (T : Int)), .int .i64 0, .slice A1 nx.length d1, .slice A2 out.length d2] rfl rfl 46 _ Y2 (by kernel_rfl) rfl (by simp [Value.oneCell']) ?_))
      refine ret_c2 (set_row_blk Y2) rfl rfl Try.underlying46 rfl (by kernel_rfl) rfl ?_
      rw [HF.out]
      have hk1 : Kt (isT 46) wr (wr.setRow (w.heap.size + 1) #[.int .i64 ((k : Int) + (T : Int)), .int .i64 0, .slice A1 nx.length d1, .slice A2 out.length d2]) := Kt.row (Blk.isT_ Y2)
      have HU2 := HU.out.kt hk1 (isT_ne (by decide)) (isT_ne (by decide))
      have hn := HOK.out.n128
      have ho := HOK.out.o
      exact ⟨⟨A1, A2, d1, d2, rfl, HU2.n.rd (by omega) (short_rows HOK.out.rowN HOK.out.k64), HU2.o.rd (by omega) (short_rows (n := k + T) (fun s hs => HOK.out.rowO s (by omega)) HOK.out.k64)⟩, below_row (below_seq HBL.out HB.out) hy1 _⟩
    have hj' : (j : Int) < (q.length : Int) := by omega
    obtain ⟨cc, hcc⟩ : ∃ cc, (q.map (·.1))[j]? = some cc := ⟨_, List.getElem?_eq_getElem (by rw [List.length_map]; exact hj)⟩
    have HW := Lib.hid (HS.out.begin hcc)
    have HJC := Lib.hid hcc
    have HOK := Lib.hid (HS.out.good.ok cc (List.mem_of_getElem? hcc))
    have hbs : w1.heap.size ≤ wr.heap.size := HB.out.size
    have HP0 : Hid (Pr2 wr wr.heap.size (.slice none 0 0) (.slice none 0 0) [] []) := Lib.hid (Pr2.nil _ _)
    have HK0 : Hid (Kt (isT 74) wr wr) := Lib.hid (Kt.refl _)
    clear hcc
    go_upto_region 11 with fail
    clear hj'
    go_loopw [5, 8, 9, 10] (fun v vns vos i wy => ∃ (x : Nat) (q2 : List (Tm.Cfg × Nat)) (ns os : List Int), x ≤ k + T ∧ i = .int .i64 x ∧ Hid (OwnC wy w1.heap.size T v q2) ∧ Hid (Pr2 wy wr.heap.size vns vos ns os) ∧ Hid (Tm.URow m k T cc j (Tm.uRow m k T cc j (k + T) 0 (q.map (·.1)) [] []) (q.map (·.1)) x (q2.map (·.1)) ns os) ∧ Hid (Kt (isT 74) wr wy) ∧ Hid (Below w1.heap.size w1 wy)) (fun _ _ _ i _ => 100 - (intOf i).toNat)
    case atStart => exact ⟨0, q, [], [], Nat.zero_le _, rfl, HO, HP0, HW, HK0, HB⟩
    case round =>
      clear HO HP0 HW HK0 HB
      obtain ⟨x, q2, ns, os, hxle, rfl, HO, HP, HW, HK, HB⟩ := hrel
      rename World => wy
      have hsz : w1.heap.size ≤ wy.heap.size := HB.out.size
      have hbr : wr.heap.size ≤ wy.heap.size := HK.out.size
      obtain ⟨E2, cE2, rfl⟩ := own_slice HO.out.own
      have Y6y := Lib.hid (blk_kt Y6.out HK.out (isT_ne (by decide)))
      have hql2 : q2.length ≤ 128 := by have := HW.out.q128; rw [List.length_map] at this; exact this
      have hjl : j < q2.length := by have := (List.getElem?_eq_some_iff.1 HW.out.at_).1; rw [List.length_map] at this; exact this
      have y0 : wy.cell? ⟨p6, 0, none⟩ = some (.int .i64 ((k : Int) + (T : Int))) := Y6y.out.cell 0
      by_cases hx : x < k + T
      rotate_left
      · have hxe : x = k + T := by omega
        have hx' : ¬ (x : Int) < (k : Int) + (T : Int) := by omega
        obtain ⟨A1, d1, rfl⟩ := HU.out.n.slice
        obtain ⟨A2, d2, rfl⟩ := HU.out.o.slice
        obtain ⟨N1, e1, rfl⟩ := own_slice HP.out.n
        obtain ⟨N2, e2, rfl⟩ := own_slice HP.out.o
        replace HU := Lib.hid (HU.out.kt HK.out (isT_ne (by decide)) (isT_ne (by decide)))
        have HN := Lib.hid (HS.out.next HM.out (by rw [List.length_map]; exact hj) HJC.out (hxe ▸ HW.out))
        have hnl : nx.length ≤ 1099511627776 := by have := HS.out.ln; omega
        have hol : out.length ≤ 1099511627776 := by have := HS.out.lo; omega
        go_upto_region 27 with fail
        clear y0 hx'
        have y2 : wy.cell? ⟨p6, 2, none⟩ = some (.slice A1 nx.length d1) := Y6y.out.cell 2
        have hal := (Below.refl wy.heap.size wy).alloc (Nat.le_refl _) (.cells #[.slice N1 ns.length e1] 59)
        obtain ⟨v7, w7, hrun7, hn7, hg7, hl7, hb7, hbad7⟩ := own_app (P := Try.prog) 22 22 59 3 Try.underlying22 infoR (by decide) (Blk.new wy 59 #[.slice N1 ns.length e1]) (HU.out.n.keep hal) rfl (own_mono (HP.out.rowN.alloc _) hbs) (hnl) (Nat.le_trans hsz hal.size)
        obtain ⟨nx7, hnx7⟩ : ∃ nx7, nx7 = nx ++ [ns] := ⟨_, rfl⟩
        rw [← hnx7] at hn7 HN
        obtain ⟨A3, d3, rfl⟩ := hn7.slice
        clear hnx7
        have k1 : Kt (isT 59) wy w7 := (Kt.below hal).trans (Kt.grown hg7 hbad7)
        have Y7 := blk_kt Y6y.out k1 (isT_ne (by decide))
        have z2 : w7.cell? ⟨p6, 2, none⟩ = some (.slice A1 nx.length d1) := Y7.cell 2
        have f2 := Y7.frozen 2
        have HK1 := Lib.hid k1
        have HY7 := Lib.hid Y7
        have HU7 := Lib.hid ((HU.out.keep hal).pushN hn7 hg7 hl7)
        have HB7 := Lib.hid ((HB.out.trans (Below.mono hal hsz)).trans hb7)
        clear k1 Y7 hn7 hg7 hl7 hb7 hbad7 hal
        go_upto_region 28 with (at_builtin; refine wpList_app_run rfl (.tmp 116) (.tmp 118) 22 rfl hrun7 ?_)
        generalize hwc : World.setCell _ _ _ = w8
        have k2 : Kt (isT 46) w7 w8 := by rw [← hwc]; exact Kt.set (p := ⟨p6, 2, none⟩) (HY7.out.isT_)
        replace Y6y : Hid (Blk w8 p6 46 #[.int .i64 ((k : Int) + (T : Int)), .int .i64 0, .slice A3 nx7.length d3, .slice A2 out.length d2]) := Lib.hid (by rw [← hwc]; exact HY7.out.set_ _ _)
        replace HU := Lib.hid (HU7.out.kt k2 (isT_ne (by decide)) (isT_ne (by decide)))
        replace HO := Lib.hid ((HO.out.kt HK1.out (isT_ne (by decide)) (isT_ne (by decide))).kt k2 (isT_ne (by decide)) (isT_ne (by decide)))
        replace HP := Lib.hid ((HP.out.kt HK1.out (isT_ne (by decide))).kt k2 (isT_ne (by decide)))
        replace HB := Lib.hid (show Below w1.heap.size w1 w8 by rw [← hwc]; exact HB7.out.setCell hp6 _)
        replace hsz : w1.heap.size ≤ w8.heap.size := HB.out.size
        clear hwc k2 hrun7 z2 f2 y2 HK1 HY7 HU7 HB7
        clear w7
        rename World => wz
        have y3 : wz.cell? ⟨p6, 3, none⟩ = some (.slice A2 out.length d2) := Y6y.out.cell 3
        have hal := (Below.refl wz.heap.size wz).alloc (Nat.le_refl _) (.cells #[.slice N2 os.length e2] 59)
        obtain ⟨v7, w7, hrun7, hn7, hg7, hl7, hb7, hbad7⟩ := own_app (P := Try.prog) 22 22 59 3 Try.underlying22 infoR (by decide) (Blk.new wz 59 #[.slice N2 os.length e2]) (HU.out.o.keep hal) rfl (own_mono (HP.out.rowO.alloc _) hbs) (hol) (Nat.le_trans hsz hal.size)
        obtain ⟨out7, hout7⟩ : ∃ out7, out7 = out ++ [os] := ⟨_, rfl⟩
        rw [← hout7] at hn7 HN
        obtain ⟨A4, d4, rfl⟩ := hn7.slice
        clear hout7
        have k1 : Kt (isT 59) wz w7 := (Kt.below hal).trans (Kt.grown hg7 hbad7)
        have Y7 := blk_kt Y6y.out k1 (isT_ne (by decide))
        have z3 : w7.cell? ⟨p6, 3, none⟩ = some (.slice A2 out.length d2) := Y7.cell 3
        have f3 := Y7.frozen 3
        have HK1 := Lib.hid k1
        have HY7 := Lib.hid Y7
        have HU7 := Lib.hid ((HU.out.keep hal).pushO hn7 hg7 hl7)
        have HB7 := Lib.hid ((HB.out.trans (Below.mono hal hsz)).trans hb7)
        clear k1 Y7 hn7 hg7 hl7 hb7 hbad7 hal
        go_upto_region 8 with (at_builtin; refine wpList_app_run rfl (.tmp 122) (.tmp 124) 22 rfl hrun7 ?_)
        generalize hwc : World.setCell _ _ _ = w8
        have k2 : Kt (isT 46) w7 w8 := by rw [← hwc]; exact Kt.set (p := ⟨p6, 3, none⟩) (HY7.out.isT_)
        replace Y6y : Hid (Blk w8 p6 46 #[.int .i64 ((k : Int) + (T : Int)), .int .i64 0, .slice A3 nx7.length d3, .slice A4 out7.length d4]) := Lib.hid (by rw [← hwc]; exact HY7.out.set_ _ _)
        replace HU := Lib.hid (HU7.out.kt k2 (isT_ne (by decide)) (isT_ne (by decide)))
        replace HO := Lib.hid ((HO.out.kt HK1.out (isT_ne (by decide)) (isT_ne (by decide))).kt k2 (isT_ne (by decide)) (isT_ne (by decide)))
        replace HP := Lib.hid ((HP.out.kt HK1.out (isT_ne (by decide))).kt k2 (isT_ne (by decide)))
        replace HB := Lib.hid (show Below w1.heap.size w1 w8 by rw [← hwc]; exact HB7.out.setCell hp6 _)
        replace hsz : w1.heap.size ≤ w8.heap.size := HB.out.size
        clear hwc k2 hrun7 z3 f3 y3 HK1 HY7 HU7 HB7
        go_wp2_with fail
        go_roundw
        case rel => exact ⟨j + 1, q2, _, _, nx7, out7, by go_num, HO, HU, Y6y, HN, HB⟩
        case measure => simp [intOf] <;> omega
      have hx' : (x : Int) < (k : Int) + (T : Int) := by omega
      obtain ⟨gg, hgg⟩ : ∃ gg, q2[j]? = some (cc, gg) := by
        have h1 := HW.out.at_
        rw [List.getElem?_map] at h1
        obtain ⟨p, hp, e⟩ := Option.map_eq_some_iff.1 h1
        exact ⟨p.2, by rw [hp, ← e]⟩
      have HRD := Lib.hid (HO.out.rd (by omega))
      obtain ⟨ad, hE, hcell⟩ := HRD.out.rd.at_ hgg
      subst hE
      have hrow := HRD.out.row j _ hgg
      have HCL := Lib.hid (RdL.whole (w := wy) (ad := ad) (i := j) (x := (cc, gg)) (el := elC T) (size := 2) hcell)
      have HRW := Lib.hid hrow.1
      have HCC := Lib.hid hrow.2
      clear hcell hrow hgg
      go_upto_region 13 with fail
      clear hx' y0
      go_cut [53] (fun b wx => b = .bool (!(Tm.poss k cc x)) ∧ Below wy.heap.size wy wx)
      case first =>
        refine wp_region_held_drew (S := fun wx => Below wy.heap.size wy wx) (by kernel_rfl) ((Below.refl _ _).drew) (fun hS => ?_)
        refine takeH (i := 0) (d := some 46) (v := .agg #[.int .i64 m.I, .int .i64 m.T, .int .i64 m.S, .slice A m.nx.length c, .slice B m.out.length d, .slice C m.set.length e]) rfl rfl (by kernel_rfl) (by kernel_rfl) (by kernel_rfl) (fun _ _ _ h => h) (yieldsIf_load_any (by rfl) 25 _ rfl ⟨w.heap.size, 0, none⟩ rfl [.int .i64 m.I, .int .i64 m.T, .int .i64 m.S, .slice A m.nx.length c, .slice B m.out.length d, .slice C m.set.length e] _ (fun wx hSx => ((HC0.out wx (HB.out.trans (Below.mono hSx hsz))).part 0 _ rfl)) Try.underlying25 rfl (by kernel_rfl)) hS ?_
        simp only [Act.put, List.setIfInBounds_toArray, List.set_cons_zero, List.set_cons_succ]
        refine takeH (i := 1) (d := some 47) (v := ?_) rfl rfl (by kernel_rfl) (by kernel_rfl) (by kernel_rfl) (fun _ _ _ h => h) (Or.inl ⟨by rfl, ?_⟩) hS ?_
        rotate_left
        · intro wx hSx; clear hSx; first | (go_simp; done) | (go_simp; with_reducible rfl)
        simp only [Act.put, List.setIfInBounds_toArray, List.set_cons_zero, List.set_cons_succ]
        refine takeH (i := 2) (d := some 48) (v := ?_) rfl rfl (by kernel_rfl) (by kernel_rfl) (by kernel_rfl) (fun _ _ _ h => h) (Or.inl ⟨by rfl, ?_⟩) hS ?_
        rotate_left
        · intro wx hSx; clear hSx; first | (go_simp; done) | (go_simp; with_reducible rfl)
        simp only [Act.put, List.setIfInBounds_toArray, List.set_cons_zero, List.set_cons_succ]
        refine takeH (i := 3) (d := some 49) (v := ?_) rfl rfl (by kernel_rfl) (by kernel_rfl) (by kernel_rfl) (fun _ _ _ h => h) (Or.inl ⟨by rfl, ?_⟩) hS ?_
        rotate_left
        · intro wx hSx; clear hSx; first | (go_simp; done) | (go_simp; with_reducible rfl)
        simp only [Act.put, List.setIfInBounds_toArray, List.set_cons_zero, List.set_cons_succ]
        refine takeH (i := 4) (d := some 50) (v := .agg #[.int .i64 (cc.1 : Nat), .slice (some ⟨gg, 0, none⟩) T T]) rfl rfl (by kernel_rfl) (by kernel_rfl) (by kernel_rfl) (fun _ _ _ h => h) (yieldsIf_load_any (by rfl) 74 _ rfl (ad.add (j * 2)) rfl [.int .i64 (cc.1 : Nat), .slice (some ⟨gg, 0, none⟩) T T] _ (fun wx hSx => (fun jj u hu => keep_cell hSx (HCL.out jj u hu))) Try.underlying74 rfl (by kernel_rfl)) hS ?_
        simp only [Act.put, List.setIfInBounds_toArray, List.set_cons_zero, List.set_cons_succ]
        refine takeH (i := 5) (d := some 51) (v := ?_) rfl rfl (by kernel_rfl) (by kernel_rfl) (by kernel_rfl) (fun _ _ _ h => h) (Or.inl ⟨by rfl, ?_⟩) hS ?_
        rotate_left
        · intro wx hSx; clear hSx; first | (go_simp; done) | (go_simp; with_reducible rfl)
        simp only [Act.put, List.setIfInBounds_toArray, List.set_cons_zero, List.set_cons_succ]
        generalize hwa : World.drew _ = wa at hS ⊢
        clear hwa
        have HSa := Lib.hid hS
        clear hS
        refine wpAnyH_ready (rs := [6]) (by kernel_rfl) (by simp) ?_
        refine AllReadyH.cons rfl (fun K hK => ?_) AllReadyH.nil
        rw [if_pos (by rfl)]
        try go_simp
        refine (poss_r' m k T x cc A B C (some ⟨gg, 0, none⟩) c d e T wa HM.out.I hx h4 HCC.out (rowB_rd (rowIs_keep HRW.out HSa.out) HCC.out (by omega))).mono ?_
        rintro r wv ⟨rfl, hb⟩
        refine hK.out _ _ (below_seq HSa.out hb) (fun hS2 => ?_)
        clear hK K
        try simp only [Act.put, List.setIfInBounds_toArray, List.set_cons_zero, List.set_cons_succ]
        replace HSa := Lib.hid hS2
        clear hS2 hb wa
        rename World => wa
        refine takeH (i := 7) (d := some 53) (v := ?_) rfl rfl (by kernel_rfl) (by kernel_rfl) (by kernel_rfl) (fun _ _ _ h => h) (Or.inl ⟨by rfl, ?_⟩) HSa.out ?_
        rotate_left
        · intro wx hSx; clear hSx; first | (go_simp; done) | (go_simp; with_reducible rfl)
        simp only [Act.put, List.setIfInBounds_toArray, List.set_cons_zero, List.set_cons_succ]
        refine wpAnyH_done (by kernel_rfl) ?_ _
        go_wp2_with fail
        go_meet
        exact ⟨rfl, HSa.out⟩
      case rest =>
      obtain ⟨rfl, hbx⟩ := hcut
      rename World => wx
      apply_assumption
      cases hp : Tm.poss k cc x with
      | false =>
        have HW2 := Lib.hid (HW.out.no hx hp)
        replace HO := Lib.hid (HO.out.keep hbx)
        replace HP := Lib.hid (HP.out.keep hbx)
        replace HK := Lib.hid (HK.out.trans (Kt.below hbx))
        replace HB := Lib.hid (below_seq HB.out hbx)
        replace hbr : wr.heap.size ≤ wx.heap.size := HK.out.size
        have hq6 : ns.length ≤ 1099511627776 := by have := HW.out.ln; omega
        go_upto_region 15 with (first | (at_builtin; refine appL elI_len (by decide) rfl (.tmp 54) (.tmp 56) 59 3 _ _ rfl Try.underlying59 infoI rfl (by decide) (y := (j : Int)) rfl rfl rfl rfl HP.out.n elI_one hq6 hbr ?_; intro v5 w6 hown' hgr' hloc hbb _))
        have hk1 := app_kt HP.out.n hgr'
        replace HP := Lib.hid (HP.out.pushN hown' hgr' hloc)
        replace HO := Lib.hid (HO.out.kt hk1 (isT_ne (by decide)) (isT_ne (by decide)))
        replace HK := Lib.hid (HK.out.far (hbb wr.heap.size _ (Nat.le_refl _) (Below.refl _ _)))
        replace HB := Lib.hid (hbb w1.heap.size w1 hbs HB.out)
        replace hbr : wr.heap.size ≤ w6.heap.size := HK.out.size
        clear hk1 hown' hgr' hloc hbb hq6
        rename Value => vn5
        have hq6 : os.length ≤ 1099511627776 := by have := HW.out.ln; have := HW.out.row.len; omega
        clear hbx
        rename World => w5
        go_wp2_with (first | (at_builtin; refine appL elI_len (by decide) rfl (.tmp 58) (.tmp 59) 59 3 _ _ rfl Try.underlying59 infoI rfl (by decide) (y := (0 : Int)) rfl rfl rfl rfl HP.out.o elI_one hq6 hbr ?_; intro v5 w6 hown' hgr' hloc hbb _))
        have hk1 := app_kt HP.out.o hgr'
        replace HP := Lib.hid (HP.out.pushO hown' hgr' hloc)
        replace HO := Lib.hid (HO.out.kt hk1 (isT_ne (by decide)) (isT_ne (by decide)))
        replace HK := Lib.hid (HK.out.far (hbb wr.heap.size _ (Nat.le_refl _) (Below.refl _ _)))
        replace HB := Lib.hid (hbb w1.heap.size w1 hbs HB.out)
        replace hbr : wr.heap.size ≤ w6.heap.size := HK.out.size
        clear hk1 hown' hgr' hloc hbb hq6
        go_wp2_with fail
        go_roundw
        case rel => exact ⟨x + 1, q2, _, _, by omega, by go_num, HO, HP, HW2, HK, HB⟩
        case measure => simp [intOf] <;> omega
      | true =>
        have HPS := Lib.hid hp
        replace HO := Lib.hid (HO.out.keep hbx)
        replace HP := Lib.hid (HP.out.keep hbx)
        replace HK := Lib.hid (HK.out.trans (Kt.below hbx))
        replace HRW := Lib.hid (rowIs_keep HRW.out hbx)
        replace HCL := Lib.hid (fun jj u hu => keep_cell hbx (HCL.out jj u hu))
        replace HB := Lib.hid (below_seq HB.out hbx)
        replace hsz : w1.heap.size ≤ wx.heap.size := HB.out.size
        replace hbr : wr.heap.size ≤ wx.heap.size := HK.out.size
        clear hp hbx HRD Y6y wy
        rename World => wy
        go_upto_region 16 with fail
        go_cut [11, 12] (fun p cd wx => ∃ k6 g, p = .pointer (some ⟨k6, 0, none⟩) ∧ cd = .int .i64 (Tm.aftN m k cc x) ∧ Blk wx k6 74 #[.int .i64 ((Tm.aftC m k cc x).1 : Nat), .slice (some ⟨g, 0, none⟩) T T] ∧ wx.rowIs g 4 T (bits (Tm.aftC m k cc x).2) ∧ wy.heap.size ≤ g ∧ Below wy.heap.size wy wx)
        case first =>
          refine wp_region_held_drew (S := fun wx => Below wy.heap.size wy wx) (by kernel_rfl) ((Below.refl _ _).drew) (fun hS => ?_)
          refine takeH (i := 0) (d := some 62) (v := .agg #[.int .i64 m.I, .int .i64 m.T, .int .i64 m.S, .slice A m.nx.length c, .slice B m.out.length d, .slice C m.set.length e]) rfl rfl (by kernel_rfl) (by kernel_rfl) (by kernel_rfl) (fun _ _ _ h => h) (yieldsIf_load_any (by rfl) 25 _ rfl ⟨w.heap.size, 0, none⟩ rfl [.int .i64 m.I, .int .i64 m.T, .int .i64 m.S, .slice A m.nx.length c, .slice B m.out.length d, .slice C m.set.length e] _ (fun wx hSx => ((HC0.out wx (HB.out.trans (Below.mono hSx hsz))).part 0 _ rfl)) Try.underlying25 rfl (by kernel_rfl)) hS ?_
          simp only [Act.put, List.setIfInBounds_toArray, List.set_cons_zero, List.set_cons_succ]
          refine takeH (i := 1) (d := some 63) (v := ?_) rfl rfl (by kernel_rfl) (by kernel_rfl) (by kernel_rfl) (fun _ _ _ h => h) (Or.inl ⟨by rfl, ?_⟩) hS ?_
          rotate_left
          · intro wx hSx; clear hSx; first | (go_simp; done) | (go_simp; with_reducible rfl)
          simp only [Act.put, List.setIfInBounds_toArray, List.set_cons_zero, List.set_cons_succ]
          refine takeH (i := 2) (d := some 64) (v := ?_) rfl rfl (by kernel_rfl) (by kernel_rfl) (by kernel_rfl) (fun _ _ _ h => h) (Or.inl ⟨by rfl, ?_⟩) hS ?_
          rotate_left
          · intro wx hSx; clear hSx; first | (go_simp; done) | (go_simp; with_reducible rfl)
          simp only [Act.put, List.setIfInBounds_toArray, List.set_cons_zero, List.set_cons_succ]
          refine takeH (i := 3) (d := some 65) (v := ?_) rfl rfl (by kernel_rfl) (by kernel_rfl) (by kernel_rfl) (fun _ _ _ h => h) (Or.inl ⟨by rfl, ?_⟩) hS ?_
          rotate_left
          · intro wx hSx; clear hSx; first | (go_simp; done) | (go_simp; with_reducible rfl)
          simp only [Act.put, List.setIfInBounds_toArray, List.set_cons_zero, List.set_cons_succ]
          refine takeH (i := 4) (d := some 66) (v := .agg #[.int .i64 (cc.1 : Nat), .slice (some ⟨gg, 0, none⟩) T T]) rfl rfl (by kernel_rfl) (by kernel_rfl) (by kernel_rfl) (fun _ _ _ h => h) (yieldsIf_load_any (by rfl) 74 _ rfl (ad.add (j * 2)) rfl [.int .i64 (cc.1 : Nat), .slice (some ⟨gg, 0, none⟩) T T] _ (fun wx hSx => (fun jj u hu => keep_cell hSx (HCL.out jj u hu))) Try.underlying74 rfl (by kernel_rfl)) hS ?_
          simp only [Act.put, List.setIfInBounds_toArray, List.set_cons_zero, List.set_cons_succ]
          refine takeH (i := 5) (d := some 67) (v := ?_) rfl rfl (by kernel_rfl) (by kernel_rfl) (by kernel_rfl) (fun _ _ _ h => h) (Or.inl ⟨by rfl, ?_⟩) hS ?_
          rotate_left
          · intro wx hSx; clear hSx; first | (go_simp; done) | (go_simp; with_reducible rfl)
          simp only [Act.put, List.setIfInBounds_toArray, List.set_cons_zero, List.set_cons_succ]
          generalize hwa : World.drew _ = wa at hS ⊢
          clear hwa
          have HSa := Lib.hid hS
          clear hS
          refine wpAnyH_ready (rs := [6, 10]) (by kernel_rfl) (by simp) ?_
          refine AllReadyH.cons rfl (fun K hK => ?_) (AllReadyH.cons rfl (fun K hK => ?_) AllReadyH.nil)
          · skip
            rw [if_pos (by rfl)]
            try go_simp
            refine (after_r m k T S cc x A B C (some ⟨gg, 0, none⟩) c d e T wa HM.out HOK.out hx (HT.out.keep (below_seq HB.out HSa.out)) (rowB_rd (rowIs_keep HRW.out HSa.out) HCC.out (by omega))).mono ?_
            rintro r wv ⟨⟨gN, rfl, hgN, hgg⟩, hb⟩
            have hgeN : wy.heap.size ≤ gN := Nat.le_trans HSa.out.size hgg
            clear hgg
            refine hK.out _ _ (below_seq HSa.out hb) (fun hS2 => ?_)
            clear hK K
            try simp only [Act.put, List.setIfInBounds_toArray, List.set_cons_zero, List.set_cons_succ]
            have RN := Lib.hid hgN
            replace HSa := Lib.hid hS2
            clear hS2 hb hgN wa
            rename World => wa
            refine takeH (i := 7) (d := some 61) (v := ?_) rfl rfl (by kernel_rfl) (by kernel_rfl) (by kernel_rfl) (fun _ _ _ h => h) (Or.inl ⟨by rfl, ?_⟩) HSa.out ?_
            rotate_left
            · intro wx hSx; clear hSx; first | (go_simp; done) | (go_simp; with_reducible rfl)
            simp only [Act.put, List.setIfInBounds_toArray, List.set_cons_zero, List.set_cons_succ]
            refine takeH (i := 8) (d := some 69) (v := ?_) rfl rfl (by kernel_rfl) (by kernel_rfl) (by kernel_rfl) (fun _ _ _ h => h) (Or.inl ⟨by rfl, ?_⟩) HSa.out ?_
            rotate_left
            · intro wx hSx; clear hSx; first | (go_simp; done) | (go_simp; with_reducible rfl)
            simp only [Act.put, List.setIfInBounds_toArray, List.set_cons_zero, List.set_cons_succ]
            refine takeH (i := 9) (d := some 70) (v := ?_) rfl rfl (by kernel_rfl) (by kernel_rfl) (by kernel_rfl) (fun _ _ _ h => h) (Or.inl ⟨by rfl, ?_⟩) HSa.out ?_
            rotate_left
            · intro wx hSx; clear hSx; first | (go_simp; done) | (go_simp; with_reducible rfl)
            simp only [Act.put, List.setIfInBounds_toArray, List.set_cons_zero, List.set_cons_succ]
            refine wpAnyH_ready (rs := [10]) (by kernel_rfl) (by simp) ?_
            refine AllReadyH.cons rfl (fun K hK => ?_) AllReadyH.nil
            rw [if_pos (by rfl)]
            go_simp
            refine hK.out _ _ (Below.alloc HSa.out HSa.out.size _) (fun hS2 => ?_)
            clear hK K
            try simp only [Act.put, List.setIfInBounds_toArray, List.set_cons_zero, List.set_cons_succ]
            generalize hwb : World.alloc _ _ = wb at hS2 ⊢
            have hal : Below wa.heap.size wa wb := by rw [← hwb]; exact (Below.refl _ _).alloc (Nat.le_refl _) _
            have K6 : Hid (Blk wb wa.heap.size 74 #[.int .i64 0, .slice none 0 0]) := Lib.hid (by rw [← hwb]; exact Blk.new _ _ _)
            have hgeK6 : wy.heap.size ≤ wa.heap.size := HSa.out.size
            replace RN := Lib.hid (rowIs_keep RN.out hal)
            replace HSa := Lib.hid hS2
            generalize wa.heap.size = kK6 at *
            clear hS2 hwb hal
            rename World => wa
            refine wpAnyH_ready (rs := [11]) (by kernel_rfl) (by simp) ?_
            refine AllReadyH.cons rfl (fun K hK => ?_) AllReadyH.nil
            rw [if_pos (by rfl)]
            refine wp_store_row 74 _ _ rfl kK6 #[.int .i64 ((Tm.aftC m k cc x).1 : Nat), .slice (some ⟨gN, 0, none⟩) T T] rfl rfl 74 _ K6.out (by kernel_rfl) rfl (by simp [Value.oneCell']) ?_
            refine hK.out _ _ (below_row HSa.out hgeK6 _) (fun hS2 => ?_)
            clear hK K
            change wpAnyH _ _ _ _ _ _ _ (Act.put _ none _) _
            try simp only [Act.put]
            generalize hwb : World.setRow _ _ _ = wb at hS2 ⊢
            replace RN := Lib.hid (show wb.rowIs _ _ _ _ by rw [← hwb]; exact rowIs_far RN.out (rowIs_ne RN.out K6.out (by decide)))
            replace K6 := Lib.hid (show Blk wb _ _ #[.int .i64 ((Tm.aftC m k cc x).1 : Nat), .slice (some ⟨gN, 0, none⟩) T T] by rw [← hwb]; exact set_row_blk K6.out)
            replace HSa := Lib.hid hS2
            clear hS2 hwb wa
            rename World => wa
            refine takeH (i := 12) (d := some 12) (v := ?_) rfl rfl (by kernel_rfl) (by kernel_rfl) (by kernel_rfl) (fun _ _ _ h => h) (Or.inl ⟨by rfl, ?_⟩) HSa.out ?_
            rotate_left
            · intro wx hSx; clear hSx; first | (go_simp; done) | (go_simp; with_reducible rfl)
            simp only [Act.put, List.setIfInBounds_toArray, List.set_cons_zero, List.set_cons_succ]
            refine wpAnyH_done (by kernel_rfl) ?_ _
            go_wp2_with fail
            go_meet
            exact ⟨kK6, gN, rfl, rfl, K6.out, RN.out, hgeN, HSa.out⟩
          · skip
            rw [if_pos (by rfl)]
            go_simp
            refine hK.out _ _ (Below.alloc HSa.out HSa.out.size _) (fun hS2 => ?_)
            clear hK K
            try simp only [Act.put, List.setIfInBounds_toArray, List.set_cons_zero, List.set_cons_succ]
            generalize hwb : World.alloc _ _ = wb at hS2 ⊢
            have hal : Below wa.heap.size wa wb := by rw [← hwb]; exact (Below.refl _ _).alloc (Nat.le_refl _) _
            have K6 : Hid (Blk wb wa.heap.size 74 #[.int .i64 0, .slice none 0 0]) := Lib.hid (by rw [← hwb]; exact Blk.new _ _ _)
            have hgeK6 : wy.heap.size ≤ wa.heap.size := HSa.out.size
            replace HSa := Lib.hid hS2
            generalize wa.heap.size = kK6 at *
            clear hS2 hwb hal
            rename World => wa
            refine wpAnyH_ready (rs := [6]) (by kernel_rfl) (by simp) ?_
            refine AllReadyH.cons rfl (fun K hK => ?_) AllReadyH.nil
            rw [if_pos (by rfl)]
            try go_simp
            refine (after_r m k T S cc x A B C (some ⟨gg, 0, none⟩) c d e T wa HM.out HOK.out hx (HT.out.keep (below_seq HB.out HSa.out)) (rowB_rd (rowIs_keep HRW.out HSa.out) HCC.out (by omega))).mono ?_
            rintro r wv ⟨⟨gN, rfl, hgN, hgg⟩, hb⟩
            have hgeN : wy.heap.size ≤ gN := Nat.le_trans HSa.out.size hgg
            clear hgg
            refine hK.out _ _ (below_seq HSa.out hb) (fun hS2 => ?_)
            clear hK K
            try simp only [Act.put, List.setIfInBounds_toArray, List.set_cons_zero, List.set_cons_succ]
            have RN := Lib.hid hgN
            replace K6 := Lib.hid (K6.out.keep hb)
            replace HSa := Lib.hid hS2
            clear hS2 hb hgN wa
            rename World => wa
            refine takeH (i := 7) (d := some 61) (v := ?_) rfl rfl (by kernel_rfl) (by kernel_rfl) (by kernel_rfl) (fun _ _ _ h => h) (Or.inl ⟨by rfl, ?_⟩) HSa.out ?_
            rotate_left
            · intro wx hSx; clear hSx; first | (go_simp; done) | (go_simp; with_reducible rfl)
            simp only [Act.put, List.setIfInBounds_toArray, List.set_cons_zero, List.set_cons_succ]
            refine takeH (i := 8) (d := some 69) (v := ?_) rfl rfl (by kernel_rfl) (by kernel_rfl) (by kernel_rfl) (fun _ _ _ h => h) (Or.inl ⟨by rfl, ?_⟩) HSa.out ?_
            rotate_left
            · intro wx hSx; clear hSx; first | (go_simp; done) | (go_simp; with_reducible rfl)
            simp only [Act.put, List.setIfInBounds_toArray, List.set_cons_zero, List.set_cons_succ]
            refine takeH (i := 9) (d := some 70) (v := ?_) rfl rfl (by kernel_rfl) (by kernel_rfl) (by kernel_rfl) (fun _ _ _ h => h) (Or.inl ⟨by rfl, ?_⟩) HSa.out ?_
            rotate_left
            · intro wx hSx; clear hSx; first | (go_simp; done) | (go_simp; with_reducible rfl)
            simp only [Act.put, List.setIfInBounds_toArray, List.set_cons_zero, List.set_cons_succ]
            refine wpAnyH_ready (rs := [11]) (by kernel_rfl) (by simp) ?_
            refine AllReadyH.cons rfl (fun K hK => ?_) AllReadyH.nil
            rw [if_pos (by rfl)]
            refine wp_store_row 74 _ _ rfl kK6 #[.int .i64 ((Tm.aftC m k cc x).1 : Nat), .slice (some ⟨gN, 0, none⟩) T T] rfl rfl 74 _ K6.out (by kernel_rfl) rfl (by simp [Value.oneCell']) ?_
            refine hK.out _ _ (below_row HSa.out hgeK6 _) (fun hS2 => ?_)
            clear hK K
            change wpAnyH _ _ _ _ _ _ _ (Act.put _ none _) _
            try simp only [Act.put]
            generalize hwb : World.setRow _ _ _ = wb at hS2 ⊢
            replace RN := Lib.hid (show wb.rowIs _ _ _ _ by rw [← hwb]; exact rowIs_far RN.out (rowIs_ne RN.out K6.out (by decide)))
            replace K6 := Lib.hid (show Blk wb _ _ #[.int .i64 ((Tm.aftC m k cc x).1 : Nat), .slice (some ⟨gN, 0, none⟩) T T] by rw [← hwb]; exact set_row_blk K6.out)
            replace HSa := Lib.hid hS2
            clear hS2 hwb wa
            rename World => wa
            refine takeH (i := 12) (d := some 12) (v := ?_) rfl rfl (by kernel_rfl) (by kernel_rfl) (by kernel_rfl) (fun _ _ _ h => h) (Or.inl ⟨by rfl, ?_⟩) HSa.out ?_
            rotate_left
            · intro wx hSx; clear hSx; first | (go_simp; done) | (go_simp; with_reducible rfl)
            simp only [Act.put, List.setIfInBounds_toArray, List.set_cons_zero, List.set_cons_succ]
            refine wpAnyH_done (by kernel_rfl) ?_ _
            go_wp2_with fail
            go_meet
            exact ⟨kK6, gN, rfl, rfl, K6.out, RN.out, hgeN, HSa.out⟩
        case rest =>
          obtain ⟨k6, gn, rfl, rfl, hk6, hrn, hgn, hbx⟩ := hcut
          have HGN := Lib.hid (Nat.le_trans hsz hgn)
          clear hgn
          rename World => wu
          replace HO := Lib.hid (HO.out.keep hbx)
          replace HP := Lib.hid (HP.out.keep hbx)
          replace HK := Lib.hid (HK.out.trans (Kt.below hbx))
          replace HCL := Lib.hid (fun jj u hu => keep_cell hbx (HCL.out jj u hu))
          replace HB := Lib.hid (below_seq HB.out hbx)
          replace hsz : w1.heap.size ≤ wu.heap.size := HB.out.size
          replace hbr : wr.heap.size ≤ wu.heap.size := HK.out.size
          have K6 := Lib.hid hk6
          have RN := Lib.hid hrn
          have HAB := Lib.hid (Tm.aftN_bd HM.out HOK.out hx)
          have HUB := Lib.hid (Tm.uO_0 HM.out HOK.out hx)
          have HA := Lib.hid (Tm.aft_ok HM.out HOK.out hx)
          have hal : (Tm.aftC m k cc x).2.length = T := HA.out.2
          have HAL := Lib.hid hal
          clear hk6 hrn hbx HRW hal
          have hs := HOK.out.1
          obtain ⟨od, O1, oc, os', rfl, ho, co, ro⟩ := HT.out.out.at_ (i := cc.1) (by rw [HM.out.o]; exact hs)
          have hol : x < os'.length := by rw [← ho, HM.out.rowO _ hs]; exact hx
          obtain ⟨od1, o, rfl, hoo, ct⟩ := ro.at_ hol
          have hcell := HM.out.cell cc.1 x hs hx
          rw [ho, hoo] at hcell
          have ho0 := hcell.o0
          have ho1 := hcell.o1
          have hUO : Tm.uO m k T cc x = 1 + o * (1 + (T : Int) * 1001) + Tm.aftN m k cc x := by unfold Tm.uO Tm.outA; rw [ho, hoo]
          obtain ⟨sc, hsc⟩ : ∃ sc : Int, sc = 1 + (T : Int) * 1001 := ⟨_, rfl⟩
          rw [← hsc] at hUO
          have hm0 : 0 ≤ o * sc := Int.mul_nonneg ho0 (by omega)
          have hm1 : o * sc ≤ 4199546880 := Int.le_trans (Int.mul_le_mul_of_nonneg_right ho1 (by omega)) (by omega)
          have HSC := Lib.hid hsc
          have mo := HT.out.out.1
          have mo1 := ro.1
          have hcs : (cc.1 : Int) < (m.out.length : Int) := by rw [HM.out.o]; omega
          have hxo : (x : Int) < (os'.length : Int) := by omega
          replace co := keep_cell HB.out co
          replace ct := keep_cell HB.out ct
          have b1 := keep_cell HB.out c1
          have b4 := keep_cell HB.out c4
          have bq : wu.cell? (ad.add (j * 2)) = some (.int .i64 (cc.1 : Nat)) := by have := HCL.out 0 _ rfl; rw [ad_zero] at this; exact this
          have hab := HAB.out
          obtain ⟨an, han⟩ : ∃ an, an = Tm.aftN m k cc x := ⟨_, rfl⟩
          rw [← han] at hUO hab
          simp only [← han]
          obtain ⟨uo, huo⟩ : ∃ uo, uo = Tm.uO m k T cc x := ⟨_, rfl⟩
          have HUO := Lib.hid huo
          rw [← huo] at hUO HUB
          clear hcell ho hoo ro hsc han huo hs hol
          go_upto_region 17 with fail
          go_cut [13] (fun v wz => v = .int .i64 uo ∧ Below wu.heap.size wu wz)
          case first =>
            refine wp_region_held_drew (S := fun wx => Below wu.heap.size wu wx) (by kernel_rfl) ((Below.refl _ _).drew) (fun hS => ?_)
            refine takeH (i := 0) (d := some 71) (v := ?_) rfl rfl (by kernel_rfl) (by kernel_rfl) (by kernel_rfl) (fun _ _ _ h => h) (Or.inl ⟨by rfl, ?_⟩) hS ?_
            rotate_left
            · intro wx hSx; clear hSx; first | (go_simp; done) | (go_simp; with_reducible rfl)
            simp only [Act.put, List.setIfInBounds_toArray, List.set_cons_zero, List.set_cons_succ]
            refine takeH (i := 1) (d := some 72) (v := ?_) rfl rfl (by kernel_rfl) (by kernel_rfl) (by kernel_rfl) (fun _ _ _ h => h) (Or.inl ⟨by rfl, ?_⟩) hS ?_
            rotate_left
            · intro wx hSx; have hSy : Below wu.heap.size wu wx := hSx; have e0 := keep_cell hSy b4; have e1 := keep_cell hSy bq; have e2 := keep_cell hSy co; have e3 := keep_cell hSy ct; have e4 := keep_cell hSy b1; clear hSy hSx; first | (go_simp; done) | (go_simp; with_reducible rfl)
            simp only [Act.put, List.setIfInBounds_toArray, List.set_cons_zero, List.set_cons_succ]
            refine takeH (i := 2) (d := some 73) (v := ?_) rfl rfl (by kernel_rfl) (by kernel_rfl) (by kernel_rfl) (fun _ _ _ h => h) (Or.inl ⟨by rfl, ?_⟩) hS ?_
            rotate_left
            · intro wx hSx; clear hSx; first | (go_simp; done) | (go_simp; with_reducible rfl)
            simp only [Act.put, List.setIfInBounds_toArray, List.set_cons_zero, List.set_cons_succ]
            refine takeH (i := 3) (d := some 74) (v := ?_) rfl rfl (by kernel_rfl) (by kernel_rfl) (by kernel_rfl) (fun _ _ _ h => h) (Or.inl ⟨by rfl, ?_⟩) hS ?_
            rotate_left
            · intro wx hSx; clear hSx; first | (go_simp; done) | (go_simp; with_reducible rfl)
            simp only [Act.put, List.setIfInBounds_toArray, List.set_cons_zero, List.set_cons_succ]
            refine takeH (i := 4) (d := some 75) (v := ?_) rfl rfl (by kernel_rfl) (by kernel_rfl) (by kernel_rfl) (fun _ _ _ h => h) (Or.inl ⟨by rfl, ?_⟩) hS ?_
            rotate_left
            · intro wx hSx; clear hSx; first | (go_simp; done) | (go_simp; with_reducible rfl)
            simp only [Act.put, List.setIfInBounds_toArray, List.set_cons_zero, List.set_cons_succ]
            refine takeH (i := 5) (d := some 76) (v := ?_) rfl rfl (by kernel_rfl) (by kernel_rfl) (by kernel_rfl) (fun _ _ _ h => h) (Or.inl ⟨by rfl, ?_⟩) hS ?_
            rotate_left
            · intro wx hSx; clear hSx; first | (go_simp; done) | (go_simp; with_reducible rfl)
            simp only [Act.put, List.setIfInBounds_toArray, List.set_cons_zero, List.set_cons_succ]
            refine takeH (i := 6) (d := some 77) (v := ?_) rfl rfl (by kernel_rfl) (by kernel_rfl) (by kernel_rfl) (fun _ _ _ h => h) (Or.inl ⟨by rfl, ?_⟩) hS ?_
            rotate_left
            · intro wx hSx; have hSy : Below wu.heap.size wu wx := hSx; have e0 := keep_cell hSy b4; have e1 := keep_cell hSy bq; have e2 := keep_cell hSy co; have e3 := keep_cell hSy ct; have e4 := keep_cell hSy b1; clear hSy hSx; first | (go_simp; done) | (go_simp; with_reducible rfl)
            simp only [Act.put, List.setIfInBounds_toArray, List.set_cons_zero, List.set_cons_succ]
            refine takeH (i := 7) (d := some 78) (v := ?_) rfl rfl (by kernel_rfl) (by kernel_rfl) (by kernel_rfl) (fun _ _ _ h => h) (Or.inl ⟨by rfl, ?_⟩) hS ?_
            rotate_left
            · intro wx hSx; clear hSx; first | (go_simp; done) | (go_simp; with_reducible rfl)
            simp only [Act.put, List.setIfInBounds_toArray, List.set_cons_zero, List.set_cons_succ]
            refine takeH (i := 8) (d := some 79) (v := ?_) rfl rfl (by kernel_rfl) (by kernel_rfl) (by kernel_rfl) (fun _ _ _ h => h) (Or.inl ⟨by rfl, ?_⟩) hS ?_
            rotate_left
            · intro wx hSx; have hSy : Below wu.heap.size wu wx := hSx; have e0 := keep_cell hSy b4; have e1 := keep_cell hSy bq; have e2 := keep_cell hSy co; have e3 := keep_cell hSy ct; have e4 := keep_cell hSy b1; clear hSy hSx; first | (go_simp; done) | (go_simp; with_reducible rfl)
            simp only [Act.put, List.setIfInBounds_toArray, List.set_cons_zero, List.set_cons_succ]
            refine takeH (i := 9) (d := some 80) (v := ?_) rfl rfl (by kernel_rfl) (by kernel_rfl) (by kernel_rfl) (fun _ _ _ h => h) (Or.inl ⟨by rfl, ?_⟩) hS ?_
            rotate_left
            · intro wx hSx; clear hSx; first | (go_simp; done) | (go_simp; with_reducible rfl)
            simp only [Act.put, List.setIfInBounds_toArray, List.set_cons_zero, List.set_cons_succ]
            refine takeH (i := 10) (d := some 81) (v := ?_) rfl rfl (by kernel_rfl) (by kernel_rfl) (by kernel_rfl) (fun _ _ _ h => h) (Or.inl ⟨by rfl, ?_⟩) hS ?_
            rotate_left
            · intro wx hSx; clear hSx; first | (go_simp; done) | (go_simp; with_reducible rfl)
            simp only [Act.put, List.setIfInBounds_toArray, List.set_cons_zero, List.set_cons_succ]
            refine takeH (i := 11) (d := some 82) (v := ?_) rfl rfl (by kernel_rfl) (by kernel_rfl) (by kernel_rfl) (fun _ _ _ h => h) (Or.inl ⟨by rfl, ?_⟩) hS ?_
            rotate_left
            · intro wx hSx; have hSy : Below wu.heap.size wu wx := hSx; have e0 := keep_cell hSy b4; have e1 := keep_cell hSy bq; have e2 := keep_cell hSy co; have e3 := keep_cell hSy ct; have e4 := keep_cell hSy b1; clear hSy hSx; first | (go_simp; done) | (go_simp; with_reducible rfl)
            simp only [Act.put, List.setIfInBounds_toArray, List.set_cons_zero, List.set_cons_succ]
            refine takeH (i := 12) (d := some 83) (v := ?_) rfl rfl (by kernel_rfl) (by kernel_rfl) (by kernel_rfl) (fun _ _ _ h => h) (Or.inl ⟨by rfl, ?_⟩) hS ?_
            rotate_left
            · intro wx hSx; clear hSx; first | (go_simp; done) | (go_simp; with_reducible rfl)
            simp only [Act.put, List.setIfInBounds_toArray, List.set_cons_zero, List.set_cons_succ]
            refine takeH (i := 13) (d := some 84) (v := ?_) rfl rfl (by kernel_rfl) (by kernel_rfl) (by kernel_rfl) (fun _ _ _ h => h) (Or.inl ⟨by rfl, ?_⟩) hS ?_
            rotate_left
            · intro wx hSx; have hSy : Below wu.heap.size wu wx := hSx; have e0 := keep_cell hSy b4; have e1 := keep_cell hSy bq; have e2 := keep_cell hSy co; have e3 := keep_cell hSy ct; have e4 := keep_cell hSy b1; clear hSy hSx; first | (go_simp; done) | (go_simp; with_reducible rfl)
            simp only [Act.put, List.setIfInBounds_toArray, List.set_cons_zero, List.set_cons_succ]
            refine takeH (i := 17) (d := some 88) (v := ?_) rfl rfl (by kernel_rfl) (by kernel_rfl) (by kernel_rfl) (fun _ _ _ h => h) (Or.inl ⟨by rfl, ?_⟩) hS ?_
            rotate_left
            · intro wx hSx; clear hSx; first | (go_simp; done) | (go_simp; with_reducible rfl)
            simp only [Act.put, List.setIfInBounds_toArray, List.set_cons_zero, List.set_cons_succ]
            generalize hwa : World.drew _ = wa at hS ⊢
            clear hwa
            have HSa := Lib.hid hS
            clear hS
            refine wpAnyH_ready (rs := [14]) (by kernel_rfl) (by simp) ?_
            refine AllReadyH.cons rfl (fun K hK => ?_) AllReadyH.nil
            rw [if_pos (by rfl)]
            try go_simp
            refine (scale_r T wa h4).mono ?_
            rintro r wv ⟨rfl, rfl⟩
            rw [← HSC.out]
            refine hK.out _ _ HSa.out (fun hS2 => ?_)
            clear hK K hS2
            try simp only [Act.put, List.setIfInBounds_toArray, List.set_cons_zero, List.set_cons_succ]
            refine takeH (i := 15) (d := some 86) (v := ?_) rfl rfl (by kernel_rfl) (by kernel_rfl) (by kernel_rfl) (fun _ _ _ h => h) (Or.inl ⟨by rfl, ?_⟩) HSa.out ?_
            rotate_left
            · intro wx hSx; clear hSx; first | (go_simp; done) | (go_simp; with_reducible rfl)
            simp only [Act.put, List.setIfInBounds_toArray, List.set_cons_zero, List.set_cons_succ]
            refine takeH (i := 16) (d := some 87) (v := ?_) rfl rfl (by kernel_rfl) (by kernel_rfl) (by kernel_rfl) (fun _ _ _ h => h) (Or.inl ⟨by rfl, ?_⟩) HSa.out ?_
            rotate_left
            · intro wx hSx; clear hSx; first | (go_simp; done) | (go_simp; with_reducible rfl)
            simp only [Act.put, List.setIfInBounds_toArray, List.set_cons_zero, List.set_cons_succ]
            refine takeH (i := 18) (d := some 89) (v := ?_) rfl rfl (by kernel_rfl) (by kernel_rfl) (by kernel_rfl) (fun _ _ _ h => h) (Or.inl ⟨by rfl, ?_⟩) HSa.out ?_
            rotate_left
            · intro wx hSx; clear hSx; first | (go_simp; done) | (go_simp; with_reducible rfl)
            simp only [Act.put, List.setIfInBounds_toArray, List.set_cons_zero, List.set_cons_succ]
            refine takeH (i := 19) (d := some 13) (v := ?_) rfl rfl (by kernel_rfl) (by kernel_rfl) (by kernel_rfl) (fun _ _ _ h => h) (Or.inl ⟨by rfl, ?_⟩) HSa.out ?_
            rotate_left
            · intro wx hSx; clear hSx; first | (go_simp; done) | (go_simp; with_reducible rfl)
            simp only [Act.put, List.setIfInBounds_toArray, List.set_cons_zero, List.set_cons_succ]
            refine wpAnyH_done (by kernel_rfl) ?_ _
            go_wp2_with fail
            go_meet
            rw [hUO, IntWalk.i64_in (o * sc) (by omega), IntWalk.i64_in (1 + o * sc) (by omega), IntWalk.i64_in (1 + o * sc + an) (by omega)]
            exact ⟨rfl, HSa.out⟩
          case rest =>
          obtain ⟨rfl, hbx⟩ := hcut
          rename World => wv
          try apply_assumption
          replace HO := Lib.hid (HO.out.keep hbx)
          replace HP := Lib.hid (HP.out.keep hbx)
          replace HK := Lib.hid (HK.out.trans (Kt.below hbx))
          replace HB := Lib.hid (below_seq HB.out hbx)
          replace hsz : w1.heap.size ≤ wv.heap.size := HB.out.size
          replace hbr : wr.heap.size ≤ wv.heap.size := HK.out.size
          replace K6 := Lib.hid (K6.out.keep hbx)
          replace RN := Lib.hid (rowIs_keep RN.out hbx)
          clear hbx co ct b1 b4 bq hUO hm0 hm1 hab mo mo1 hcs hxo ho0 ho1 HSC HCL wu
          by_cases hlim : 1048576 < uo
          · have hlim' : (1048576 : Int) < uo := hlim
            have hr1 := HW.out.lim hx HPS.out (by rw [← HUO.out]; exact hlim)
            have HE := Lib.hid (untE_err HM.out (by decide) (HS.out.err HM.out (by rw [List.length_map]; exact hj) HJC.out (by decide) hr1))
            have Y2 := HY0.out wv HB.out
            clear hr1 hlim
            go_wp2_with (first | (refine wpList_store_row rfl 46 _ _ rfl (w.heap.size + 1) #[.int .i64 0, .int .i64 0, .slice none 0 0, .slice none 0 0] rfl rfl 46 _ Y2 (by kernel_rfl) rfl (by simp [Value.oneCell']) ?_))
            refine ret_c2 (set_row_blk Y2) rfl rfl Try.underlying46 rfl (by kernel_rfl) rfl ?_
            rw [HE.out]
            exact UntP_err rfl (below_row (below_seq HBL.out HB.out) hy1 _)
          have HLM : Hid (¬ 1048576 < Tm.uO m k T cc x) := Lib.hid (by rw [← HUO.out]; exact hlim)
          go_upto_region 20 with fail
          clear hlim
          have HPL := Lib.hid (place_r (some ad) (some ⟨gn, 0, none⟩) cE2 T T q2 (Tm.aftC m k cc x) wv (HO.out.rd (by omega)) (rowB_rd RN.out HAL.out (by omega)) HAL.out h4 (by omega))
          go_wp2_with (first | (refine wpList_load_row rfl 74 _ rfl k6 rfl 74 #[.int .i64 ((Tm.aftC m k cc x).1 : Nat), .slice (some ⟨gn, 0, none⟩) T T] (0, 0) _ K6.out Try.underlying74 rfl (by kernel_rfl) ?_))
          refine HPL.out.mono ?_
          rintro r w5 ⟨rfl, hb5⟩
          clear HPL
          replace HO := Lib.hid (HO.out.keep hb5)
          replace HP := Lib.hid (HP.out.keep hb5)
          replace HK := Lib.hid (HK.out.trans (Kt.below hb5))
          replace HB := Lib.hid (below_seq HB.out hb5)
          replace hsz : w1.heap.size ≤ w5.heap.size := HB.out.size
          replace hbr : wr.heap.size ≤ w5.heap.size := HK.out.size
          replace K6 := Lib.hid (K6.out.keep hb5)
          replace RN := Lib.hid (rowIs_keep RN.out hb5)
          clear hb5 wv
          rename World => wv
          have HLN : Hid ((q2.map (·.1)).length = q2.length) := Lib.hid (by simp)
          have hq6 : ns.length ≤ 1099511627776 := by have := HW.out.ln; omega
          have ho6 : os.length ≤ 1099511627776 := by have := HW.out.ln; have := HW.out.row.len; omega
          by_cases hin : (Tm.aftC m k cc x) ∈ q2.map (·.1)
          · have HI := Lib.hid (HW.out.old HM.out HOK.out hx HPS.out (Int.not_lt.2 HLM.out) hin)
            rw [← HUO.out] at HI
            obtain ⟨ix, hix⟩ : ∃ ix, ix = Tm.idx (q2.map (·.1)) (Tm.aftC m k cc x) := ⟨_, rfl⟩
            have hlt := Tm.idx_lt.2 hin
            rw [← hix] at hlt HI ⊢
            rw [HLN.out] at hlt
            have hne : ¬ (ix : Int) = (q2.length : Int) := by omega
            have hne2 : ((ix : Int) == (q2.length : Int)) = false := beq_eq_false_iff_ne.2 hne
            clear hix hlt hin
            go_upto_region 25 with fail
            clear hne hne2
            go_upto_region 26 with (first | (at_builtin; refine appL elI_len (by decide) rfl (.tmp 107) (.tmp 109) 59 3 _ _ rfl Try.underlying59 infoI rfl (by decide) (y := (ix : Int)) rfl rfl rfl rfl HP.out.n elI_one hq6 hbr ?_; intro v5 w6 hown' hgr' hloc hbb _))
            have hk1 := app_kt HP.out.n hgr'
            replace HP := Lib.hid (HP.out.pushN hown' hgr' hloc)
            replace HO := Lib.hid (HO.out.kt hk1 (isT_ne (by decide)) (isT_ne (by decide)))
            replace HK := Lib.hid (HK.out.far (hbb wr.heap.size _ (Nat.le_refl _) (Below.refl _ _)))
            replace HB := Lib.hid (hbb w1.heap.size w1 hbs HB.out)
            replace hbr : wr.heap.size ≤ w6.heap.size := HK.out.size
            clear hk1 hown' hgr' hloc hbb hq6
            rename Value => vn5
            rename World => w5
            replace ho6 : os.length ≤ 1099511627776 := ho6
            have hq6 := ho6
            go_wp2_with (first | (at_builtin; refine appL elI_len (by decide) rfl (.tmp 111) (.tmp 113) 59 3 _ _ rfl Try.underlying59 infoI rfl (by decide) (y := uo) rfl rfl rfl rfl HP.out.o elI_one hq6 hbr ?_; intro v5 w6 hown' hgr' hloc hbb _))
            have hk1 := app_kt HP.out.o hgr'
            replace HP := Lib.hid (HP.out.pushO hown' hgr' hloc)
            replace HO := Lib.hid (HO.out.kt hk1 (isT_ne (by decide)) (isT_ne (by decide)))
            replace HK := Lib.hid (HK.out.far (hbb wr.heap.size _ (Nat.le_refl _) (Below.refl _ _)))
            replace HB := Lib.hid (hbb w1.heap.size w1 hbs HB.out)
            replace hbr : wr.heap.size ≤ w6.heap.size := HK.out.size
            clear hk1 hown' hgr' hloc hbb hq6
            go_wp2_with fail
            go_roundw
            case rel => exact ⟨x + 1, q2, _, _, by omega, by go_num, HO, HP, HI, HK, HB⟩
            case measure => simp [intOf] <;> omega
          rw [Tm.idx_eq.2 hin, HLN.out]
          by_cases hfull : 128 ≤ q2.length
          · have hfe : q2.length = 128 := by omega
            have hr1 := HW.out.full hx HPS.out (Int.not_lt.2 HLM.out) hin (by rw [HLN.out]; exact hfull)
            have HE := Lib.hid (untE_err HM.out (by decide) (HS.out.err HM.out (by rw [List.length_map]; exact hj) HJC.out (by decide) hr1))
            have Y2 := HY0.out wv HB.out
            have hb1 : ((q2.length : Int) == 128) = true := by rw [hfe]; rfl
            have hb2 : decide ((q2.length : Int) = 128) = true := by rw [hfe]; rfl
            clear hr1 hin hfull
            go_wp2_with (first | (refine wpList_store_row rfl 46 _ _ rfl (w.heap.size + 1) #[.int .i64 0, .int .i64 0, .slice none 0 0, .slice none 0 0] rfl rfl 46 _ Y2 (by kernel_rfl) rfl (by simp [Value.oneCell']) ?_))
            refine ret_c2 (set_row_blk Y2) rfl rfl Try.underlying46 rfl (by kernel_rfl) rfl ?_
            rw [HE.out]
            exact UntP_err rfl (below_row (below_seq HBL.out HB.out) hy1 _)
          have HI := Lib.hid (HW.out.new HM.out HOK.out hx HPS.out (Int.not_lt.2 HLM.out) hin (by rw [HLN.out]; exact hfull))
          rw [← HUO.out, HLN.out] at HI
          have hb1 : ((q2.length : Int) == 128) = false := beq_eq_false_iff_ne.2 (by omega)
          have hb2 : ¬ (q2.length : Int) = 128 := by omega
          clear hin hfull
          go_upto_region 24 with fail
          clear hb1 hb2
          have hq7 : q2.length ≤ 1099511627776 := by omega
          go_upto_region 25 with (first | (refine wpList_load_row rfl 74 _ rfl k6 rfl 74 #[.int .i64 ((Tm.aftC m k cc x).1 : Nat), .slice (some ⟨gn, 0, none⟩) T T] (0, 0) _ K6.out Try.underlying74 rfl (by kernel_rfl) ?_) | (at_builtin; refine appL (elC_len T) (by decide) rfl (.tmp 103) (.tmp 105) 71 74 _ _ rfl Try.underlying71 infoC rfl (by decide) (y := ((Tm.aftC m k cc x), gn)) rfl rfl rfl rfl HO.out.own (by intro u hu; simp [elC] at hu; rcases hu with rfl | rfl <;> rfl) hq7 hsz ?_; intro v5 w6 hown' hgr' _ hbb _))
          have hk1 := app_kt HO.out.own hgr'
          replace HO := Lib.hid (HO.out.push RN.out HAL.out HGN.out hown' hgr')
          replace HP := Lib.hid (HP.out.kt hk1 (isT_ne (by decide)))
          replace HK := Lib.hid (HK.out.trans hk1)
          replace HB := Lib.hid (hbb w1.heap.size w1 (Nat.le_refl _) HB.out)
          replace hbr : wr.heap.size ≤ w6.heap.size := HK.out.size
          clear hk1 hown' hgr' hbb K6 RN hsz
          rename World => wv
          generalize hq9 : q2.length = p9 at *
          go_upto_region 26 with (first | (at_builtin; refine appL elI_len (by decide) rfl (.tmp 107) (.tmp 109) 59 3 _ _ rfl Try.underlying59 infoI rfl (by decide) (y := (p9 : Int)) rfl rfl rfl rfl HP.out.n elI_one hq6 hbr ?_; intro v5 w6 hown' hgr' hloc hbb _))
          have hk1 := app_kt HP.out.n hgr'
          replace HP := Lib.hid (HP.out.pushN hown' hgr' hloc)
          replace HO := Lib.hid (HO.out.kt hk1 (isT_ne (by decide)) (isT_ne (by decide)))
          replace HK := Lib.hid (HK.out.far (hbb wr.heap.size _ (Nat.le_refl _) (Below.refl _ _)))
          replace HB := Lib.hid (hbb w1.heap.size w1 hbs HB.out)
          replace hbr : wr.heap.size ≤ w6.heap.size := HK.out.size
          clear hk1 hown' hgr' hloc hbb hq6
          rename Value => vn5
          rename World => w5
          replace ho6 : os.length ≤ 1099511627776 := ho6
          have hq6 := ho6
          go_wp2_with (first | (at_builtin; refine appL elI_len (by decide) rfl (.tmp 111) (.tmp 113) 59 3 _ _ rfl Try.underlying59 infoI rfl (by decide) (y := uo) rfl rfl rfl rfl HP.out.o elI_one hq6 hbr ?_; intro v5 w6 hown' hgr' hloc hbb _))
          have hk1 := app_kt HP.out.o hgr'
          replace HP := Lib.hid (HP.out.pushO hown' hgr' hloc)
          replace HO := Lib.hid (HO.out.kt hk1 (isT_ne (by decide)) (isT_ne (by decide)))
          replace HK := Lib.hid (HK.out.far (hbb wr.heap.size _ (Nat.le_refl _) (Below.refl _ _)))
          replace HB := Lib.hid (hbb w1.heap.size w1 hbs HB.out)
          replace hbr : wr.heap.size ≤ w6.heap.size := HK.out.size
          clear hk1 hown' hgr' hloc hbb hq6
          go_wp2_with fail
          go_roundw
          case rel => exact ⟨x + 1, q2 ++ [((Tm.aftC m k cc x), gn)], _, _, by omega, by go_num, HO, HP, (by rw [List.map_append]; exact HI), HK, HB⟩
          case measure => simp [intOf] <;> omega
end Go.Proofs.Ytpcoddbkcelaoaa
