/- The reference's events of a timed word. -/
import Derived.Test.YtpcoddbkcelaoaaTaken
import Derived.Test.YtpcoddbkcelaoaaRun
namespace Go.Proofs.Ytpcoddbkcelaoaa
open Go.RowKit

theorem own_rowIs_ne {w : World} {base g t n : Nat} {v : Value} {q : List Tm.Ev} {f : Nat → Value} (h : OwnE w base v q) (hg : w.rowIs g t n f) (hne : 53 ≠ t) : some g ≠ v.ownBlock := by
  obtain ⟨c, hc, _⟩ := hg
  exact fun e => own_blk_ne (g := g) (t := t) (cs := c) h (by unfold Blk; exact hc) hne e.symm
theorem own_setRow {w : World} {base g t : Nat} {v : Value} {q : List Tm.Ev} {cs cs' : Array Value} (h : OwnE w base v q) (hg : Blk w g t cs) (hne : 53 ≠ t) : OwnE (w.setRow g cs') base v q := by
  refine ⟨h.1, ?_⟩
  rcases h.2 with h0 | ⟨b, cap, cur, hv, hb, hh, hr⟩
  · exact .inl h0
  · refine .inr ⟨b, cap, cur, hv, hb, ?_, hr⟩
    have hbg : g ≠ b := fun e => own_blk_ne h hg hne (by rw [hv, e]; rfl)
    simp only [World.setRow, Array.getElem?_modify]
    rw [if_neg hbg]; exact hh
/-- the reference's execution, in the midst of a timed word -/
structure Rq (m : Tm.M) (k T : Nat) (wd : List (Int × Int)) (en : Int) (R : Int × List Tm.Ev) (i k12 base : Nat) (w2 wr : World) (st : Tm.St) (g1 g2 : Nat) (v : Value) : Prop where
  ex : Tm.Ex m k T wd en R i st
  blk : Blk wr k12 90 #[.int .i64 (st.c.1 : Nat), .slice (some ⟨g1, 0, none⟩) T T, .slice (some ⟨g2, 0, none⟩) T T]
  r1 : wr.rowIs g1 4 T (bits st.c.2)
  r2 : wr.rowIs g2 3 T (ints st.at_)
  own : OwnE wr base v st.ev
  bel : Below base w2 wr
theorem Rq.next {m : Tm.M} {k T : Nat} {wd : List (Int × Int)} {en : Int} {R : Int × List Tm.Ev} {i i' k12 base : Nat} {w2 wr wx w' : World} {st st' : Tm.St} {g1 g2 g1' g2' : Nat} {v v' : Value} {e : Tm.Ev} {cs : Array Value} (h : Rq m k T wd en R i k12 base w2 wr st g1 g2 v) (hb : Below wr.heap.size wr wx) (hkb : base ≤ k12) (hsz : base ≤ wr.heap.size)
    (n1 : wx.rowIs g1' 4 T (bits st'.c.2)) (n2 : wx.rowIs g2' 3 T (ints st'.at_)) (hcs : cs = #[.int .i64 (st'.c.1 : Nat), .slice (some ⟨g1', 0, none⟩) T T, .slice (some ⟨g2', 0, none⟩) T T]) (hg : ((wx.setRow k12 cs).alloc (.cells #[.int .i64 e.1, .int .i64 e.2.1, .int .i64 e.2.2] 53)).grownBy w' v.ownBlock) (ho : OwnE w' base v' (st.ev ++ [e])) (he : st'.ev = st.ev ++ [e]) (ex : Tm.Ex m k T wd en R i' st') : Rq m k T wd en R i' k12 base w2 w' st' g1' g2' v' := by
  subst hcs
  have b1 := h.blk.keep hb
  have o1 : OwnE wx base v st.ev := own_keep h.own hb
  have al : Below (wx.setRow k12 #[.int .i64 (st'.c.1 : Nat), .slice (some ⟨g1', 0, none⟩) T T, .slice (some ⟨g2', 0, none⟩) T T]).heap.size (wx.setRow k12 #[.int .i64 (st'.c.1 : Nat), .slice (some ⟨g1', 0, none⟩) T T, .slice (some ⟨g2', 0, none⟩) T T]) ((wx.setRow k12 #[.int .i64 (st'.c.1 : Nat), .slice (some ⟨g1', 0, none⟩) T T, .slice (some ⟨g2', 0, none⟩) T T]).alloc (.cells #[.int .i64 e.1, .int .i64 e.2.1, .int .i64 e.2.2] 53)) := (Below.refl _ _).alloc (Nat.le_refl _) _
  have b2 := (set_row_blk (cs' := #[.int .i64 (st'.c.1 : Nat), .slice (some ⟨g1', 0, none⟩) T T, .slice (some ⟨g2', 0, none⟩) T T]) b1)
  have o2 := own_setRow (cs' := #[.int .i64 (st'.c.1 : Nat), .slice (some ⟨g1', 0, none⟩) T T, .slice (some ⟨g2', 0, none⟩) T T]) o1 b1 (by decide)
  have m1 := rowIs_far (cs := #[.int .i64 (st'.c.1 : Nat), .slice (some ⟨g1', 0, none⟩) T T, .slice (some ⟨g2', 0, none⟩) T T]) n1 (rowIs_ne n1 b1 (by decide))
  have m2 := rowIs_far (cs := #[.int .i64 (st'.c.1 : Nat), .slice (some ⟨g1', 0, none⟩) T T, .slice (some ⟨g2', 0, none⟩) T T]) n2 (rowIs_ne n2 b1 (by decide))
  have o3 : OwnE _ base v st.ev := own_keep o2 al
  have b3 := b2.keep al
  have p1 := rowIs_keep m1 al
  have p2 := rowIs_keep m2 al
  refine ⟨ex, b3.grown hg (own_ne_blk o3 b3 (by decide)), p1.of_block (hg.block _ (rowIs_lt p1) (own_rowIs_ne o3 p1 (by decide))), p2.of_block (hg.block _ (rowIs_lt p2) (own_rowIs_ne o3 p2 (by decide))), by rw [he]; exact ho, ?_⟩
  have hsx : base ≤ wx.heap.size := Nat.le_trans hsz hb.size
  have q1 : Below base w2 wx := h.bel.trans (hb.mono hsz)
  have q2 := below_row q1 hkb #[.int .i64 (st'.c.1 : Nat), .slice (some ⟨g1', 0, none⟩) T T, .slice (some ⟨g2', 0, none⟩) T T]
  have q3 := q2.alloc (by simp [World.setRow]; exact hsx) (.cells #[.int .i64 e.1, .int .i64 e.2.1, .int .i64 e.2.2] 53)
  exact q3.grown hg (by simp [World.setRow]; omega) (fun b hbb => (o3.lt b hbb).1)
theorem Rq.on {m : Tm.M} {k T : Nat} {wd : List (Int × Int)} {en : Int} {R : Int × List Tm.Ev} {i k12 base : Nat} {w2 wr wx : World} {st : Tm.St} {g1 g2 : Nat} {v : Value} (h : Rq m k T wd en R i k12 base w2 wr st g1 g2 v) (hb : Below wr.heap.size wr wx) (hsz : base ≤ wr.heap.size) : Rq m k T wd en R i k12 base w2 wx st g1 g2 v :=
  ⟨h.ex, h.blk.keep hb, rowIs_keep h.r1 hb, rowIs_keep h.r2 hb, own_keep h.own hb, h.bel.trans (hb.mono hsz)⟩
/-- behind 'taken', and the boxes of what it gives -/
def R18 (T : Nat) (wr : World) (c : Tm.Cfg) (f : Nat → Int) (ev : Tm.Ev) (p q : Value) (wx : World) : Prop :=
  ∃ k16 k17 g1 g2, p = .pointer (some ⟨k16, 0, none⟩) ∧ q = .pointer (some ⟨k17, 0, none⟩) ∧ Blk wx k16 90 #[.int .i64 (c.1 : Nat), .slice (some ⟨g1, 0, none⟩) T T, .slice (some ⟨g2, 0, none⟩) T T] ∧ Blk wx k17 53 #[.int .i64 ev.1, .int .i64 ev.2.1, .int .i64 ev.2.2] ∧ wx.rowIs g1 4 T (bits c.2) ∧ wx.rowIs g2 3 T (ints f) ∧ wr.heap.size ≤ k16 ∧ wr.heap.size ≤ k17 ∧ Below wr.heap.size wr wx
set_option maxRecDepth 100000 in
set_option maxHeartbeats 16000000 in
theorem run_r (m : Tm.M) (A B C D : Option Addr) (c d e f : Nat) (wd : List (Int × Int)) (en : Int) (w : World) (hR : RdT w A B C m) (hD : Rd2 w D wd) :
    Calls Try.prog 17 #[.agg #[.int .i64 m.I, .int .i64 m.T, .int .i64 m.S, .slice A m.nx.length c, .slice B m.out.length d, .slice C m.set.length e], .slice D wd.length f, .int .i64 en] w (RunP (runE m wd en) w) := by
  have HR := Lib.hid hR
  have HD := Lib.hid hD
  have ml := hD.1
  clear hR hD
  go_enter Try.func17, Try.ntmps17
  go_upto_region 1 with fail
  generalize hwb : World.alloc _ _ = w0
  have BX : Hid (Blk w0 w.heap.size 25 (tc m A c B d C e)) := Lib.hid (by rw [← hwb]; exact Blk.new _ _ _)
  have HBL : Hid (Below w.heap.size w w0) := Lib.hid (by rw [← hwb]; exact (Below.refl _ _).alloc (Nat.le_refl _) _)
  clear hwb
  go_wp2_with (first | (refine wpList_load_row rfl 25 _ rfl w.heap.size rfl 25 (tc m A c B d C e) (0, 0) _ BX.out Try.underlying25 rfl (by kernel_rfl) ?_))
  refine (tvalid_r m A B C c d e w0 (HR.out.keep HBL.out)).mono ?_
  rintro r w1 ⟨rfl, hb⟩
  replace BX := Lib.hid (BX.out.keep hb)
  replace HBL := Lib.hid (below_seq HBL.out hb)
  clear hb w0
  by_cases hv : Tm.validE m = 0
  rotate_left
  · have HE := Lib.hid (runE_bad (wd := wd) (en := en) hv)
    generalize Tm.validE m = q at *
    have hbz : (q != 0) = true := by rw [bne_iff_ne]; exact hv
    clear hv
    go_wp2
    go_ret2
    rw [HE.out]
    exact ⟨⟨_, rfl, OwnE_nil _ _⟩, HBL.out⟩
  rw [hv]
  obtain ⟨k, T, S, hok⟩ := Tm.ok_of hv
  have HM := Lib.hid hok
  have h4 := hok.t4
  have h64 := hok.k64
  clear hv hok
  go_upto_region 4 with fail
  go_wp2_with (first | (refine wpList_load_row rfl 25 _ rfl w.heap.size rfl 25 (tc m A c B d C e) (0, 0) _ BX.out Try.underlying25 rfl (by kernel_rfl) ?_))
  refine (ticks_r m A B C D c d e f wd en w1 (HD.out.keep HBL.out)).mono ?_
  rintro r w2 ⟨⟨v2, rfl, hv2⟩, hb⟩
  have HV2 := Lib.hid hv2
  replace BX := Lib.hid (BX.out.keep hb)
  have hs1 := HBL.out.size
  replace HBL := Lib.hid (below_seq HBL.out hb)
  clear hb hv2
  by_cases hw : Tm.wordE m.I wd en = 0
  rotate_left
  · have HE := Lib.hid (runE_word (wd := wd) (en := en) HM.out.valid hw)
    generalize Tm.wordE m.I wd en = q at *
    have hbz : (q != 0) = true := by rw [bne_iff_ne]; exact hw
    clear hw
    go_wp2
    go_ret2
    rw [HE.out]
    exact ⟨⟨_, rfl, OwnE_nil _ _⟩, HBL.out⟩
  have HE := Lib.hid (runE_ok (wd := wd) (en := en) HM.out hw)
  have HO2 := Lib.hid (HV2.out hw)
  have HWD : Hid (Tm.WordOk k wd en) := Lib.hid (Tm.word_ok (by rw [← HM.out.I]; exact hw))
  rw [hw]
  clear hw HV2
  obtain ⟨E2, n2, rfl⟩ := own_slice HO2.out
  have HRT : Hid (RdK .i64 w2 E2 (timesL wd wd.length)) := Lib.hid (own_rd HO2.out (by have := HWD.out.len; omega)).2
  have HT2 := Lib.hid (HR.out.keep HBL.out)
  have HD2 := Lib.hid (HD.out.keep HBL.out)
  have HLEN := Lib.hid HWD.out.len
  have BT := Lib.hid (boxT BX.out)
  have c2 := BT.out.c2
  rw [HM.out.S'] at c2
  have c1 := BT.out.c1
  rw [HM.out.T'] at c1
  clear HR HD HO2 BT
  have hmk1 := run_make_row' (P := Try.prog) 62 4 (.bool false) 1 Try.underlying62 info4 rfl .i64 .i64 T (by omega) (by omega)
  have hmk2 := run_make_row' (P := Try.prog) 59 3 (.int .i64 0) 8 Try.underlying59 info3 rfl .i64 .i64 T (by omega) (by omega)
  go_upto_region 8 with fail
  go_cut [12] (fun p wx => ∃ k12 g1 g2, p = .pointer (some ⟨k12, 0, none⟩) ∧ Blk wx k12 90 #[.int .i64 ((Tm.c0 S T).1 : Nat), .slice (some ⟨g1, 0, none⟩) T T, .slice (some ⟨g2, 0, none⟩) T T] ∧ wx.rowIs g1 4 T (bits (Tm.c0 S T).2) ∧ wx.rowIs g2 3 T (ints fun _ => 0) ∧ w2.heap.size ≤ k12 ∧ Below w2.heap.size w2 wx)
  case first =>
    refine wp_region_held_drew (S := fun wx => Below w2.heap.size w2 wx) (by kernel_rfl) ((Below.refl _ _).drew) (fun hS => ?_)
    refine takeH (i := 0) (d := some 35) (v := ?_) rfl rfl (by kernel_rfl) (by kernel_rfl) (by kernel_rfl) (fun _ _ _ h => h) (Or.inl ⟨by rfl, ?_⟩) hS ?_
    rotate_left
    · intro wx hSx; clear hSx; first | (go_simp; done) | (go_simp; with_reducible rfl)
    simp only [Act.put, List.setIfInBounds_toArray, List.set_cons_zero, List.set_cons_succ]
    refine takeH (i := 1) (d := some 36) (v := ?_) rfl rfl (by kernel_rfl) (by kernel_rfl) (by kernel_rfl) (fun _ _ _ h => h) (Or.inl ⟨by rfl, ?_⟩) hS ?_
    rotate_left
    · intro wx hSx; have hSy : Below w2.heap.size w2 wx := hSx; have e0 := keep_cell hSy c2; have e1 := keep_cell hSy c1; clear hSy hSx; first | (go_simp; done) | (go_simp; with_reducible rfl)
    simp only [Act.put, List.setIfInBounds_toArray, List.set_cons_zero, List.set_cons_succ]
    refine takeH (i := 2) (d := some 37) (v := ?_) rfl rfl (by kernel_rfl) (by kernel_rfl) (by kernel_rfl) (fun _ _ _ h => h) (Or.inl ⟨by rfl, ?_⟩) hS ?_
    rotate_left
    · intro wx hSx; clear hSx; first | (go_simp; done) | (go_simp; with_reducible rfl)
    simp only [Act.put, List.setIfInBounds_toArray, List.set_cons_zero, List.set_cons_succ]
    refine takeH (i := 3) (d := some 38) (v := ?_) rfl rfl (by kernel_rfl) (by kernel_rfl) (by kernel_rfl) (fun _ _ _ h => h) (Or.inl ⟨by rfl, ?_⟩) hS ?_
    rotate_left
    · intro wx hSx; have hSy : Below w2.heap.size w2 wx := hSx; have e0 := keep_cell hSy c2; have e1 := keep_cell hSy c1; clear hSy hSx; first | (go_simp; done) | (go_simp; with_reducible rfl)
    simp only [Act.put, List.setIfInBounds_toArray, List.set_cons_zero, List.set_cons_succ]
    refine takeH (i := 6) (d := some 41) (v := ?_) rfl rfl (by kernel_rfl) (by kernel_rfl) (by kernel_rfl) (fun _ _ _ h => h) (Or.inl ⟨by rfl, ?_⟩) hS ?_
    rotate_left
    · intro wx hSx; clear hSx; first | (go_simp; done) | (go_simp; with_reducible rfl)
    simp only [Act.put, List.setIfInBounds_toArray, List.set_cons_zero, List.set_cons_succ]
    refine takeH (i := 7) (d := some 42) (v := ?_) rfl rfl (by kernel_rfl) (by kernel_rfl) (by kernel_rfl) (fun _ _ _ h => h) (Or.inl ⟨by rfl, ?_⟩) hS ?_
    rotate_left
    · intro wx hSx; have hSy : Below w2.heap.size w2 wx := hSx; have e0 := keep_cell hSy c2; have e1 := keep_cell hSy c1; clear hSy hSx; first | (go_simp; done) | (go_simp; with_reducible rfl)
    simp only [Act.put, List.setIfInBounds_toArray, List.set_cons_zero, List.set_cons_succ]
    generalize hwa : World.drew _ = wa at hS ⊢
    clear hwa
    have HSa := Lib.hid hS
    clear hS
    refine wpAnyH_ready (rs := [4, 8, 10]) (by kernel_rfl) (by simp) ?_
    refine AllReadyH.cons rfl (fun K hK => ?_) (AllReadyH.cons rfl (fun K hK => ?_) (AllReadyH.cons rfl (fun K hK => ?_) AllReadyH.nil))
    · skip
      rw [if_pos (by rfl)]
      go_simp
      refine hK.out _ _ (Below.alloc HSa.out HSa.out.size _) (fun hS2 => ?_)
      clear hK K
      try simp only [Act.put, List.setIfInBounds_toArray, List.set_cons_zero, List.set_cons_succ]
      generalize hwb : World.alloc _ _ = wb at hS2 ⊢
      have hal : Below wa.heap.size wa wb := by rw [← hwb]; exact (Below.refl _ _).alloc (Nat.le_refl _) _
      have R1 : Hid (wb.rowIs wa.heap.size 4 T (fun _ => .bool false)) := Lib.hid (by rw [← hwb]; exact World.rowIs_made _ _ _ _)
      replace HSa := Lib.hid hS2
      generalize wa.heap.size = gR1 at *
      clear hS2 hwb hal
      rename World => wa
      refine takeH (i := 5) (d := some 40) (v := ?_) rfl rfl (by kernel_rfl) (by kernel_rfl) (by kernel_rfl) (fun _ _ _ h => h) (Or.inl ⟨by rfl, ?_⟩) HSa.out ?_
      rotate_left
      · intro wx hSx; clear hSx; first | (go_simp; done) | (go_simp; with_reducible rfl)
      simp only [Act.put, List.setIfInBounds_toArray, List.set_cons_zero, List.set_cons_succ]
      refine wpAnyH_ready (rs := [8, 10]) (by kernel_rfl) (by simp) ?_
      refine AllReadyH.cons rfl (fun K hK => ?_) (AllReadyH.cons rfl (fun K hK => ?_) AllReadyH.nil)
      · skip
        rw [if_pos (by rfl)]
        go_simp
        refine hK.out _ _ (Below.alloc HSa.out HSa.out.size _) (fun hS2 => ?_)
        clear hK K
        try simp only [Act.put, List.setIfInBounds_toArray, List.set_cons_zero, List.set_cons_succ]
        generalize hwb : World.alloc _ _ = wb at hS2 ⊢
        have hal : Below wa.heap.size wa wb := by rw [← hwb]; exact (Below.refl _ _).alloc (Nat.le_refl _) _
        replace R1 := Lib.hid (rowIs_keep R1.out hal)
        have R2 : Hid (wb.rowIs wa.heap.size 3 T (fun _ => .int .i64 0)) := Lib.hid (by rw [← hwb]; exact World.rowIs_made _ _ _ _)
        replace HSa := Lib.hid hS2
        generalize wa.heap.size = gR2 at *
        clear hS2 hwb hal
        rename World => wa
        refine takeH (i := 9) (d := some 44) (v := ?_) rfl rfl (by kernel_rfl) (by kernel_rfl) (by kernel_rfl) (fun _ _ _ h => h) (Or.inl ⟨by rfl, ?_⟩) HSa.out ?_
        rotate_left
        · intro wx hSx; clear hSx; first | (go_simp; done) | (go_simp; with_reducible rfl)
        simp only [Act.put, List.setIfInBounds_toArray, List.set_cons_zero, List.set_cons_succ]
        refine wpAnyH_ready (rs := [10]) (by kernel_rfl) (by simp) ?_
        refine AllReadyH.cons rfl (fun K hK => ?_) AllReadyH.nil
        rw [if_pos (by rfl)]
        go_simp
        refine hK.out _ _ (Below.alloc HSa.out HSa.out.size _) (fun hS2 => ?_)
        clear hK K
        try simp only [Act.put, List.setIfInBounds_toArray, List.set_cons_zero, List.set_cons_succ]
        generalize hwb : World.alloc _ _ = wb at hS2 ⊢
        have hal : Below wa.heap.size wa wb := by rw [← hwb]; exact (Below.refl _ _).alloc (Nat.le_refl _) _
        replace R1 := Lib.hid (rowIs_keep R1.out hal)
        replace R2 := Lib.hid (rowIs_keep R2.out hal)
        have K12 : Hid (Blk wb wa.heap.size 90 #[.int .i64 0, .slice none 0 0, .slice none 0 0]) := Lib.hid (by rw [← hwb]; exact Blk.new _ _ _)
        have hge12 : w2.heap.size ≤ wa.heap.size := HSa.out.size
        replace HSa := Lib.hid hS2
        generalize wa.heap.size = gK12 at *
        clear hS2 hwb hal
        rename World => wa
        refine wpAnyH_ready (rs := [11]) (by kernel_rfl) (by simp) ?_
        refine AllReadyH.cons rfl (fun K hK => ?_) AllReadyH.nil
        have hn1 : gR1 ≠ gK12 := rowIs_ne R1.out K12.out (by decide)
        have hn2 : gR2 ≠ gK12 := rowIs_ne R2.out K12.out (by decide)
        rw [if_pos (by rfl)]
        refine wp_store_row 90 _ _ rfl gK12 #[.int .i64 ((Tm.c0 S T).1 : Nat), .slice (some ⟨gR1, 0, none⟩) T T, .slice (some ⟨gR2, 0, none⟩) T T] rfl rfl 90 _ K12.out (by kernel_rfl) rfl (by simp [Value.oneCell']) ?_
        refine hK.out _ _ (below_row HSa.out hge12 _) (fun hS2 => ?_)
        clear hK K
        change wpAnyH _ _ _ _ _ _ _ (Act.put _ none _) _
        try simp only [Act.put]
        have K12n := Lib.hid (set_row_blk (cs' := #[.int .i64 ((Tm.c0 S T).1 : Nat), .slice (some ⟨gR1, 0, none⟩) T T, .slice (some ⟨gR2, 0, none⟩) T T]) K12.out)
        replace R1 := Lib.hid (rowIs_far (g' := gK12) (cs := #[.int .i64 ((Tm.c0 S T).1 : Nat), .slice (some ⟨gR1, 0, none⟩) T T, .slice (some ⟨gR2, 0, none⟩) T T]) R1.out hn1)
        replace R2 := Lib.hid (rowIs_far (g' := gK12) (cs := #[.int .i64 ((Tm.c0 S T).1 : Nat), .slice (some ⟨gR1, 0, none⟩) T T, .slice (some ⟨gR2, 0, none⟩) T T]) R2.out hn2)
        replace HSa := Lib.hid hS2
        refine wpAnyH_done (by kernel_rfl) ?_ _
        go_wp2_with fail
        go_meet
        exact ⟨gK12, gR1, gR2, rfl, K12n.out, R1.out.congr (fun x hx => by show _ = Value.bool ((List.replicate T false).getD x false); rw [List.getD_eq_getElem?_getD, List.getElem?_replicate, if_pos hx]; rfl), R2.out, hge12, HSa.out⟩
      · skip
        rw [if_pos (by rfl)]
        go_simp
        refine hK.out _ _ (Below.alloc HSa.out HSa.out.size _) (fun hS2 => ?_)
        clear hK K
        try simp only [Act.put, List.setIfInBounds_toArray, List.set_cons_zero, List.set_cons_succ]
        generalize hwb : World.alloc _ _ = wb at hS2 ⊢
        have hal : Below wa.heap.size wa wb := by rw [← hwb]; exact (Below.refl _ _).alloc (Nat.le_refl _) _
        replace R1 := Lib.hid (rowIs_keep R1.out hal)
        have K12 : Hid (Blk wb wa.heap.size 90 #[.int .i64 0, .slice none 0 0, .slice none 0 0]) := Lib.hid (by rw [← hwb]; exact Blk.new _ _ _)
        have hge12 : w2.heap.size ≤ wa.heap.size := HSa.out.size
        replace HSa := Lib.hid hS2
        generalize wa.heap.size = gK12 at *
        clear hS2 hwb hal
        rename World => wa
        refine wpAnyH_ready (rs := [8]) (by kernel_rfl) (by simp) ?_
        refine AllReadyH.cons rfl (fun K hK => ?_) AllReadyH.nil
        rw [if_pos (by rfl)]
        go_simp
        refine hK.out _ _ (Below.alloc HSa.out HSa.out.size _) (fun hS2 => ?_)
        clear hK K
        try simp only [Act.put, List.setIfInBounds_toArray, List.set_cons_zero, List.set_cons_succ]
        generalize hwb : World.alloc _ _ = wb at hS2 ⊢
        have hal : Below wa.heap.size wa wb := by rw [← hwb]; exact (Below.refl _ _).alloc (Nat.le_refl _) _
        replace R1 := Lib.hid (rowIs_keep R1.out hal)
        replace K12 := Lib.hid (K12.out.keep hal)
        have R2 : Hid (wb.rowIs wa.heap.size 3 T (fun _ => .int .i64 0)) := Lib.hid (by rw [← hwb]; exact World.rowIs_made _ _ _ _)
        replace HSa := Lib.hid hS2
        generalize wa.heap.size = gR2 at *
        clear hS2 hwb hal
        rename World => wa
        refine takeH (i := 9) (d := some 44) (v := ?_) rfl rfl (by kernel_rfl) (by kernel_rfl) (by kernel_rfl) (fun _ _ _ h => h) (Or.inl ⟨by rfl, ?_⟩) HSa.out ?_
        rotate_left
        · intro wx hSx; clear hSx; first | (go_simp; done) | (go_simp; with_reducible rfl)
        simp only [Act.put, List.setIfInBounds_toArray, List.set_cons_zero, List.set_cons_succ]
        refine wpAnyH_ready (rs := [11]) (by kernel_rfl) (by simp) ?_
        refine AllReadyH.cons rfl (fun K hK => ?_) AllReadyH.nil
        have hn1 : gR1 ≠ gK12 := rowIs_ne R1.out K12.out (by decide)
        have hn2 : gR2 ≠ gK12 := rowIs_ne R2.out K12.out (by decide)
        rw [if_pos (by rfl)]
        refine wp_store_row 90 _ _ rfl gK12 #[.int .i64 ((Tm.c0 S T).1 : Nat), .slice (some ⟨gR1, 0, none⟩) T T, .slice (some ⟨gR2, 0, none⟩) T T] rfl rfl 90 _ K12.out (by kernel_rfl) rfl (by simp [Value.oneCell']) ?_
        refine hK.out _ _ (below_row HSa.out hge12 _) (fun hS2 => ?_)
        clear hK K
        change wpAnyH _ _ _ _ _ _ _ (Act.put _ none _) _
        try simp only [Act.put]
        have K12n := Lib.hid (set_row_blk (cs' := #[.int .i64 ((Tm.c0 S T).1 : Nat), .slice (some ⟨gR1, 0, none⟩) T T, .slice (some ⟨gR2, 0, none⟩) T T]) K12.out)
        replace R1 := Lib.hid (rowIs_far (g' := gK12) (cs := #[.int .i64 ((Tm.c0 S T).1 : Nat), .slice (some ⟨gR1, 0, none⟩) T T, .slice (some ⟨gR2, 0, none⟩) T T]) R1.out hn1)
        replace R2 := Lib.hid (rowIs_far (g' := gK12) (cs := #[.int .i64 ((Tm.c0 S T).1 : Nat), .slice (some ⟨gR1, 0, none⟩) T T, .slice (some ⟨gR2, 0, none⟩) T T]) R2.out hn2)
        replace HSa := Lib.hid hS2
        refine wpAnyH_done (by kernel_rfl) ?_ _
        go_wp2_with fail
        go_meet
        exact ⟨gK12, gR1, gR2, rfl, K12n.out, R1.out.congr (fun x hx => by show _ = Value.bool ((List.replicate T false).getD x false); rw [List.getD_eq_getElem?_getD, List.getElem?_replicate, if_pos hx]; rfl), R2.out, hge12, HSa.out⟩
    · skip
      rw [if_pos (by rfl)]
      go_simp
      refine hK.out _ _ (Below.alloc HSa.out HSa.out.size _) (fun hS2 => ?_)
      clear hK K
      try simp only [Act.put, List.setIfInBounds_toArray, List.set_cons_zero, List.set_cons_succ]
      generalize hwb : World.alloc _ _ = wb at hS2 ⊢
      have hal : Below wa.heap.size wa wb := by rw [← hwb]; exact (Below.refl _ _).alloc (Nat.le_refl _) _
      have R2 : Hid (wb.rowIs wa.heap.size 3 T (fun _ => .int .i64 0)) := Lib.hid (by rw [← hwb]; exact World.rowIs_made _ _ _ _)
      replace HSa := Lib.hid hS2
      generalize wa.heap.size = gR2 at *
      clear hS2 hwb hal
      rename World => wa
      refine wpAnyH_ready (rs := [4, 10]) (by kernel_rfl) (by simp) ?_
      refine AllReadyH.cons rfl (fun K hK => ?_) (AllReadyH.cons rfl (fun K hK => ?_) AllReadyH.nil)
      · skip
        rw [if_pos (by rfl)]
        go_simp
        refine hK.out _ _ (Below.alloc HSa.out HSa.out.size _) (fun hS2 => ?_)
        clear hK K
        try simp only [Act.put, List.setIfInBounds_toArray, List.set_cons_zero, List.set_cons_succ]
        generalize hwb : World.alloc _ _ = wb at hS2 ⊢
        have hal : Below wa.heap.size wa wb := by rw [← hwb]; exact (Below.refl _ _).alloc (Nat.le_refl _) _
        replace R2 := Lib.hid (rowIs_keep R2.out hal)
        have R1 : Hid (wb.rowIs wa.heap.size 4 T (fun _ => .bool false)) := Lib.hid (by rw [← hwb]; exact World.rowIs_made _ _ _ _)
        replace HSa := Lib.hid hS2
        generalize wa.heap.size = gR1 at *
        clear hS2 hwb hal
        rename World => wa
        refine takeH (i := 5) (d := some 40) (v := ?_) rfl rfl (by kernel_rfl) (by kernel_rfl) (by kernel_rfl) (fun _ _ _ h => h) (Or.inl ⟨by rfl, ?_⟩) HSa.out ?_
        rotate_left
        · intro wx hSx; clear hSx; first | (go_simp; done) | (go_simp; with_reducible rfl)
        simp only [Act.put, List.setIfInBounds_toArray, List.set_cons_zero, List.set_cons_succ]
        refine takeH (i := 9) (d := some 44) (v := ?_) rfl rfl (by kernel_rfl) (by kernel_rfl) (by kernel_rfl) (fun _ _ _ h => h) (Or.inl ⟨by rfl, ?_⟩) HSa.out ?_
        rotate_left
        · intro wx hSx; clear hSx; first | (go_simp; done) | (go_simp; with_reducible rfl)
        simp only [Act.put, List.setIfInBounds_toArray, List.set_cons_zero, List.set_cons_succ]
        refine wpAnyH_ready (rs := [10]) (by kernel_rfl) (by simp) ?_
        refine AllReadyH.cons rfl (fun K hK => ?_) AllReadyH.nil
        rw [if_pos (by rfl)]
        go_simp
        refine hK.out _ _ (Below.alloc HSa.out HSa.out.size _) (fun hS2 => ?_)
        clear hK K
        try simp only [Act.put, List.setIfInBounds_toArray, List.set_cons_zero, List.set_cons_succ]
        generalize hwb : World.alloc _ _ = wb at hS2 ⊢
        have hal : Below wa.heap.size wa wb := by rw [← hwb]; exact (Below.refl _ _).alloc (Nat.le_refl _) _
        replace R1 := Lib.hid (rowIs_keep R1.out hal)
        replace R2 := Lib.hid (rowIs_keep R2.out hal)
        have K12 : Hid (Blk wb wa.heap.size 90 #[.int .i64 0, .slice none 0 0, .slice none 0 0]) := Lib.hid (by rw [← hwb]; exact Blk.new _ _ _)
        have hge12 : w2.heap.size ≤ wa.heap.size := HSa.out.size
        replace HSa := Lib.hid hS2
        generalize wa.heap.size = gK12 at *
        clear hS2 hwb hal
        rename World => wa
        refine wpAnyH_ready (rs := [11]) (by kernel_rfl) (by simp) ?_
        refine AllReadyH.cons rfl (fun K hK => ?_) AllReadyH.nil
        have hn1 : gR1 ≠ gK12 := rowIs_ne R1.out K12.out (by decide)
        have hn2 : gR2 ≠ gK12 := rowIs_ne R2.out K12.out (by decide)
        rw [if_pos (by rfl)]
        refine wp_store_row 90 _ _ rfl gK12 #[.int .i64 ((Tm.c0 S T).1 : Nat), .slice (some ⟨gR1, 0, none⟩) T T, .slice (some ⟨gR2, 0, none⟩) T T] rfl rfl 90 _ K12.out (by kernel_rfl) rfl (by simp [Value.oneCell']) ?_
        refine hK.out _ _ (below_row HSa.out hge12 _) (fun hS2 => ?_)
        clear hK K
        change wpAnyH _ _ _ _ _ _ _ (Act.put _ none _) _
        try simp only [Act.put]
        have K12n := Lib.hid (set_row_blk (cs' := #[.int .i64 ((Tm.c0 S T).1 : Nat), .slice (some ⟨gR1, 0, none⟩) T T, .slice (some ⟨gR2, 0, none⟩) T T]) K12.out)
        replace R1 := Lib.hid (rowIs_far (g' := gK12) (cs := #[.int .i64 ((Tm.c0 S T).1 : Nat), .slice (some ⟨gR1, 0, none⟩) T T, .slice (some ⟨gR2, 0, none⟩) T T]) R1.out hn1)
        replace R2 := Lib.hid (rowIs_far (g' := gK12) (cs := #[.int .i64 ((Tm.c0 S T).1 : Nat), .slice (some ⟨gR1, 0, none⟩) T T, .slice (some ⟨gR2, 0, none⟩) T T]) R2.out hn2)
        replace HSa := Lib.hid hS2
        refine wpAnyH_done (by kernel_rfl) ?_ _
        go_wp2_with fail
        go_meet
        exact ⟨gK12, gR1, gR2, rfl, K12n.out, R1.out.congr (fun x hx => by show _ = Value.bool ((List.replicate T false).getD x false); rw [List.getD_eq_getElem?_getD, List.getElem?_replicate, if_pos hx]; rfl), R2.out, hge12, HSa.out⟩
      · skip
        rw [if_pos (by rfl)]
        go_simp
        refine hK.out _ _ (Below.alloc HSa.out HSa.out.size _) (fun hS2 => ?_)
        clear hK K
        try simp only [Act.put, List.setIfInBounds_toArray, List.set_cons_zero, List.set_cons_succ]
        generalize hwb : World.alloc _ _ = wb at hS2 ⊢
        have hal : Below wa.heap.size wa wb := by rw [← hwb]; exact (Below.refl _ _).alloc (Nat.le_refl _) _
        replace R2 := Lib.hid (rowIs_keep R2.out hal)
        have K12 : Hid (Blk wb wa.heap.size 90 #[.int .i64 0, .slice none 0 0, .slice none 0 0]) := Lib.hid (by rw [← hwb]; exact Blk.new _ _ _)
        have hge12 : w2.heap.size ≤ wa.heap.size := HSa.out.size
        replace HSa := Lib.hid hS2
        generalize wa.heap.size = gK12 at *
        clear hS2 hwb hal
        rename World => wa
        refine wpAnyH_ready (rs := [4]) (by kernel_rfl) (by simp) ?_
        refine AllReadyH.cons rfl (fun K hK => ?_) AllReadyH.nil
        rw [if_pos (by rfl)]
        go_simp
        refine hK.out _ _ (Below.alloc HSa.out HSa.out.size _) (fun hS2 => ?_)
        clear hK K
        try simp only [Act.put, List.setIfInBounds_toArray, List.set_cons_zero, List.set_cons_succ]
        generalize hwb : World.alloc _ _ = wb at hS2 ⊢
        have hal : Below wa.heap.size wa wb := by rw [← hwb]; exact (Below.refl _ _).alloc (Nat.le_refl _) _
        replace R2 := Lib.hid (rowIs_keep R2.out hal)
        replace K12 := Lib.hid (K12.out.keep hal)
        have R1 : Hid (wb.rowIs wa.heap.size 4 T (fun _ => .bool false)) := Lib.hid (by rw [← hwb]; exact World.rowIs_made _ _ _ _)
        replace HSa := Lib.hid hS2
        generalize wa.heap.size = gR1 at *
        clear hS2 hwb hal
        rename World => wa
        refine takeH (i := 5) (d := some 40) (v := ?_) rfl rfl (by kernel_rfl) (by kernel_rfl) (by kernel_rfl) (fun _ _ _ h => h) (Or.inl ⟨by rfl, ?_⟩) HSa.out ?_
        rotate_left
        · intro wx hSx; clear hSx; first | (go_simp; done) | (go_simp; with_reducible rfl)
        simp only [Act.put, List.setIfInBounds_toArray, List.set_cons_zero, List.set_cons_succ]
        refine takeH (i := 9) (d := some 44) (v := ?_) rfl rfl (by kernel_rfl) (by kernel_rfl) (by kernel_rfl) (fun _ _ _ h => h) (Or.inl ⟨by rfl, ?_⟩) HSa.out ?_
        rotate_left
        · intro wx hSx; clear hSx; first | (go_simp; done) | (go_simp; with_reducible rfl)
        simp only [Act.put, List.setIfInBounds_toArray, List.set_cons_zero, List.set_cons_succ]
        refine wpAnyH_ready (rs := [11]) (by kernel_rfl) (by simp) ?_
        refine AllReadyH.cons rfl (fun K hK => ?_) AllReadyH.nil
        have hn1 : gR1 ≠ gK12 := rowIs_ne R1.out K12.out (by decide)
        have hn2 : gR2 ≠ gK12 := rowIs_ne R2.out K12.out (by decide)
        rw [if_pos (by rfl)]
        refine wp_store_row 90 _ _ rfl gK12 #[.int .i64 ((Tm.c0 S T).1 : Nat), .slice (some ⟨gR1, 0, none⟩) T T, .slice (some ⟨gR2, 0, none⟩) T T] rfl rfl 90 _ K12.out (by kernel_rfl) rfl (by simp [Value.oneCell']) ?_
        refine hK.out _ _ (below_row HSa.out hge12 _) (fun hS2 => ?_)
        clear hK K
        change wpAnyH _ _ _ _ _ _ _ (Act.put _ none _) _
        try simp only [Act.put]
        have K12n := Lib.hid (set_row_blk (cs' := #[.int .i64 ((Tm.c0 S T).1 : Nat), .slice (some ⟨gR1, 0, none⟩) T T, .slice (some ⟨gR2, 0, none⟩) T T]) K12.out)
        replace R1 := Lib.hid (rowIs_far (g' := gK12) (cs := #[.int .i64 ((Tm.c0 S T).1 : Nat), .slice (some ⟨gR1, 0, none⟩) T T, .slice (some ⟨gR2, 0, none⟩) T T]) R1.out hn1)
        replace R2 := Lib.hid (rowIs_far (g' := gK12) (cs := #[.int .i64 ((Tm.c0 S T).1 : Nat), .slice (some ⟨gR1, 0, none⟩) T T, .slice (some ⟨gR2, 0, none⟩) T T]) R2.out hn2)
        replace HSa := Lib.hid hS2
        refine wpAnyH_done (by kernel_rfl) ?_ _
        go_wp2_with fail
        go_meet
        exact ⟨gK12, gR1, gR2, rfl, K12n.out, R1.out.congr (fun x hx => by show _ = Value.bool ((List.replicate T false).getD x false); rw [List.getD_eq_getElem?_getD, List.getElem?_replicate, if_pos hx]; rfl), R2.out, hge12, HSa.out⟩
    · skip
      rw [if_pos (by rfl)]
      go_simp
      refine hK.out _ _ (Below.alloc HSa.out HSa.out.size _) (fun hS2 => ?_)
      clear hK K
      try simp only [Act.put, List.setIfInBounds_toArray, List.set_cons_zero, List.set_cons_succ]
      generalize hwb : World.alloc _ _ = wb at hS2 ⊢
      have hal : Below wa.heap.size wa wb := by rw [← hwb]; exact (Below.refl _ _).alloc (Nat.le_refl _) _
      have K12 : Hid (Blk wb wa.heap.size 90 #[.int .i64 0, .slice none 0 0, .slice none 0 0]) := Lib.hid (by rw [← hwb]; exact Blk.new _ _ _)
      have hge12 : w2.heap.size ≤ wa.heap.size := HSa.out.size
      replace HSa := Lib.hid hS2
      generalize wa.heap.size = gK12 at *
      clear hS2 hwb hal
      rename World => wa
      refine wpAnyH_ready (rs := [4, 8]) (by kernel_rfl) (by simp) ?_
      refine AllReadyH.cons rfl (fun K hK => ?_) (AllReadyH.cons rfl (fun K hK => ?_) AllReadyH.nil)
      · skip
        rw [if_pos (by rfl)]
        go_simp
        refine hK.out _ _ (Below.alloc HSa.out HSa.out.size _) (fun hS2 => ?_)
        clear hK K
        try simp only [Act.put, List.setIfInBounds_toArray, List.set_cons_zero, List.set_cons_succ]
        generalize hwb : World.alloc _ _ = wb at hS2 ⊢
        have hal : Below wa.heap.size wa wb := by rw [← hwb]; exact (Below.refl _ _).alloc (Nat.le_refl _) _
        replace K12 := Lib.hid (K12.out.keep hal)
        have R1 : Hid (wb.rowIs wa.heap.size 4 T (fun _ => .bool false)) := Lib.hid (by rw [← hwb]; exact World.rowIs_made _ _ _ _)
        replace HSa := Lib.hid hS2
        generalize wa.heap.size = gR1 at *
        clear hS2 hwb hal
        rename World => wa
        refine takeH (i := 5) (d := some 40) (v := ?_) rfl rfl (by kernel_rfl) (by kernel_rfl) (by kernel_rfl) (fun _ _ _ h => h) (Or.inl ⟨by rfl, ?_⟩) HSa.out ?_
        rotate_left
        · intro wx hSx; clear hSx; first | (go_simp; done) | (go_simp; with_reducible rfl)
        simp only [Act.put, List.setIfInBounds_toArray, List.set_cons_zero, List.set_cons_succ]
        refine wpAnyH_ready (rs := [8]) (by kernel_rfl) (by simp) ?_
        refine AllReadyH.cons rfl (fun K hK => ?_) AllReadyH.nil
        rw [if_pos (by rfl)]
        go_simp
        refine hK.out _ _ (Below.alloc HSa.out HSa.out.size _) (fun hS2 => ?_)
        clear hK K
        try simp only [Act.put, List.setIfInBounds_toArray, List.set_cons_zero, List.set_cons_succ]
        generalize hwb : World.alloc _ _ = wb at hS2 ⊢
        have hal : Below wa.heap.size wa wb := by rw [← hwb]; exact (Below.refl _ _).alloc (Nat.le_refl _) _
        replace R1 := Lib.hid (rowIs_keep R1.out hal)
        replace K12 := Lib.hid (K12.out.keep hal)
        have R2 : Hid (wb.rowIs wa.heap.size 3 T (fun _ => .int .i64 0)) := Lib.hid (by rw [← hwb]; exact World.rowIs_made _ _ _ _)
        replace HSa := Lib.hid hS2
        generalize wa.heap.size = gR2 at *
        clear hS2 hwb hal
        rename World => wa
        refine takeH (i := 9) (d := some 44) (v := ?_) rfl rfl (by kernel_rfl) (by kernel_rfl) (by kernel_rfl) (fun _ _ _ h => h) (Or.inl ⟨by rfl, ?_⟩) HSa.out ?_
        rotate_left
        · intro wx hSx; clear hSx; first | (go_simp; done) | (go_simp; with_reducible rfl)
        simp only [Act.put, List.setIfInBounds_toArray, List.set_cons_zero, List.set_cons_succ]
        refine wpAnyH_ready (rs := [11]) (by kernel_rfl) (by simp) ?_
        refine AllReadyH.cons rfl (fun K hK => ?_) AllReadyH.nil
        have hn1 : gR1 ≠ gK12 := rowIs_ne R1.out K12.out (by decide)
        have hn2 : gR2 ≠ gK12 := rowIs_ne R2.out K12.out (by decide)
        rw [if_pos (by rfl)]
        refine wp_store_row 90 _ _ rfl gK12 #[.int .i64 ((Tm.c0 S T).1 : Nat), .slice (some ⟨gR1, 0, none⟩) T T, .slice (some ⟨gR2, 0, none⟩) T T] rfl rfl 90 _ K12.out (by kernel_rfl) rfl (by simp [Value.oneCell']) ?_
        refine hK.out _ _ (below_row HSa.out hge12 _) (fun hS2 => ?_)
        clear hK K
        change wpAnyH _ _ _ _ _ _ _ (Act.put _ none _) _
        try simp only [Act.put]
        have K12n := Lib.hid (set_row_blk (cs' := #[.int .i64 ((Tm.c0 S T).1 : Nat), .slice (some ⟨gR1, 0, none⟩) T T, .slice (some ⟨gR2, 0, none⟩) T T]) K12.out)
        replace R1 := Lib.hid (rowIs_far (g' := gK12) (cs := #[.int .i64 ((Tm.c0 S T).1 : Nat), .slice (some ⟨gR1, 0, none⟩) T T, .slice (some ⟨gR2, 0, none⟩) T T]) R1.out hn1)
        replace R2 := Lib.hid (rowIs_far (g' := gK12) (cs := #[.int .i64 ((Tm.c0 S T).1 : Nat), .slice (some ⟨gR1, 0, none⟩) T T, .slice (some ⟨gR2, 0, none⟩) T T]) R2.out hn2)
        replace HSa := Lib.hid hS2
        refine wpAnyH_done (by kernel_rfl) ?_ _
        go_wp2_with fail
        go_meet
        exact ⟨gK12, gR1, gR2, rfl, K12n.out, R1.out.congr (fun x hx => by show _ = Value.bool ((List.replicate T false).getD x false); rw [List.getD_eq_getElem?_getD, List.getElem?_replicate, if_pos hx]; rfl), R2.out, hge12, HSa.out⟩
      · skip
        rw [if_pos (by rfl)]
        go_simp
        refine hK.out _ _ (Below.alloc HSa.out HSa.out.size _) (fun hS2 => ?_)
        clear hK K
        try simp only [Act.put, List.setIfInBounds_toArray, List.set_cons_zero, List.set_cons_succ]
        generalize hwb : World.alloc _ _ = wb at hS2 ⊢
        have hal : Below wa.heap.size wa wb := by rw [← hwb]; exact (Below.refl _ _).alloc (Nat.le_refl _) _
        replace K12 := Lib.hid (K12.out.keep hal)
        have R2 : Hid (wb.rowIs wa.heap.size 3 T (fun _ => .int .i64 0)) := Lib.hid (by rw [← hwb]; exact World.rowIs_made _ _ _ _)
        replace HSa := Lib.hid hS2
        generalize wa.heap.size = gR2 at *
        clear hS2 hwb hal
        rename World => wa
        refine wpAnyH_ready (rs := [4]) (by kernel_rfl) (by simp) ?_
        refine AllReadyH.cons rfl (fun K hK => ?_) AllReadyH.nil
        rw [if_pos (by rfl)]
        go_simp
        refine hK.out _ _ (Below.alloc HSa.out HSa.out.size _) (fun hS2 => ?_)
        clear hK K
        try simp only [Act.put, List.setIfInBounds_toArray, List.set_cons_zero, List.set_cons_succ]
        generalize hwb : World.alloc _ _ = wb at hS2 ⊢
        have hal : Below wa.heap.size wa wb := by rw [← hwb]; exact (Below.refl _ _).alloc (Nat.le_refl _) _
        replace R2 := Lib.hid (rowIs_keep R2.out hal)
        replace K12 := Lib.hid (K12.out.keep hal)
        have R1 : Hid (wb.rowIs wa.heap.size 4 T (fun _ => .bool false)) := Lib.hid (by rw [← hwb]; exact World.rowIs_made _ _ _ _)
        replace HSa := Lib.hid hS2
        generalize wa.heap.size = gR1 at *
        clear hS2 hwb hal
        rename World => wa
        refine takeH (i := 5) (d := some 40) (v := ?_) rfl rfl (by kernel_rfl) (by kernel_rfl) (by kernel_rfl) (fun _ _ _ h => h) (Or.inl ⟨by rfl, ?_⟩) HSa.out ?_
        rotate_left
        · intro wx hSx; clear hSx; first | (go_simp; done) | (go_simp; with_reducible rfl)
        simp only [Act.put, List.setIfInBounds_toArray, List.set_cons_zero, List.set_cons_succ]
        refine takeH (i := 9) (d := some 44) (v := ?_) rfl rfl (by kernel_rfl) (by kernel_rfl) (by kernel_rfl) (fun _ _ _ h => h) (Or.inl ⟨by rfl, ?_⟩) HSa.out ?_
        rotate_left
        · intro wx hSx; clear hSx; first | (go_simp; done) | (go_simp; with_reducible rfl)
        simp only [Act.put, List.setIfInBounds_toArray, List.set_cons_zero, List.set_cons_succ]
        refine wpAnyH_ready (rs := [11]) (by kernel_rfl) (by simp) ?_
        refine AllReadyH.cons rfl (fun K hK => ?_) AllReadyH.nil
        have hn1 : gR1 ≠ gK12 := rowIs_ne R1.out K12.out (by decide)
        have hn2 : gR2 ≠ gK12 := rowIs_ne R2.out K12.out (by decide)
        rw [if_pos (by rfl)]
        refine wp_store_row 90 _ _ rfl gK12 #[.int .i64 ((Tm.c0 S T).1 : Nat), .slice (some ⟨gR1, 0, none⟩) T T, .slice (some ⟨gR2, 0, none⟩) T T] rfl rfl 90 _ K12.out (by kernel_rfl) rfl (by simp [Value.oneCell']) ?_
        refine hK.out _ _ (below_row HSa.out hge12 _) (fun hS2 => ?_)
        clear hK K
        change wpAnyH _ _ _ _ _ _ _ (Act.put _ none _) _
        try simp only [Act.put]
        have K12n := Lib.hid (set_row_blk (cs' := #[.int .i64 ((Tm.c0 S T).1 : Nat), .slice (some ⟨gR1, 0, none⟩) T T, .slice (some ⟨gR2, 0, none⟩) T T]) K12.out)
        replace R1 := Lib.hid (rowIs_far (g' := gK12) (cs := #[.int .i64 ((Tm.c0 S T).1 : Nat), .slice (some ⟨gR1, 0, none⟩) T T, .slice (some ⟨gR2, 0, none⟩) T T]) R1.out hn1)
        replace R2 := Lib.hid (rowIs_far (g' := gK12) (cs := #[.int .i64 ((Tm.c0 S T).1 : Nat), .slice (some ⟨gR1, 0, none⟩) T T, .slice (some ⟨gR2, 0, none⟩) T T]) R2.out hn2)
        replace HSa := Lib.hid hS2
        refine wpAnyH_done (by kernel_rfl) ?_ _
        go_wp2_with fail
        go_meet
        exact ⟨gK12, gR1, gR2, rfl, K12n.out, R1.out.congr (fun x hx => by show _ = Value.bool ((List.replicate T false).getD x false); rw [List.getD_eq_getElem?_getD, List.getElem?_replicate, if_pos hx]; rfl), R2.out, hge12, HSa.out⟩
  case rest =>
  obtain ⟨k12, g1, g2, rfl, hk, h1, h2, hk12, hbx⟩ := hcut
  rename World => w3
  have HQ0 : Hid (Rq m k T wd en (Tm.runV m k T S wd en) 0 k12 w2.heap.size w2 w3 (Tm.s0 S T) g1 g2 (.slice none 0 0)) := Lib.hid ⟨Tm.Ex.start HM.out wd en, hk, h1, h2, OwnE_nil _ _, hbx⟩
  clear hk h1 h2 hbx c1 c2 hmk1 hmk2
  go_upto_region 10 with fail
  go_loopw [11, 13] (fun v i wr => ∃ (j : Nat), j ≤ wd.length + 1 ∧ i = .int .i64 j ∧ ∃ st g1 g2, Hid (Rq m k T wd en (Tm.runV m k T S wd en) (min j wd.length) k12 w2.heap.size w2 wr st g1 g2 v) ∧ Hid (j = wd.length + 1 → Tm.runV m k T S wd en = (0, st.ev)) ∧ ¬ 10000 < st.ev.length) (fun _ i _ => wd.length + 1 - (intOf i).toNat)
  case atStart => exact ⟨0, by omega, rfl, _, _, _, (by rw [Nat.zero_min]; exact HQ0), Lib.hid (fun h => by omega), by simp [Tm.s0]⟩
  case round =>
    clear HQ0
    obtain ⟨j, hj, rfl, st, g1, g2, HQ, HFin, hfew⟩ := hrel
    by_cases hend : j = wd.length + 1
    · subst hend
      have d1 : ¬ ((wd.length : Int) + 1 ≤ (wd.length : Int)) := by omega
      have HF := Lib.hid (HFin.out rfl)
      go_wp2
      go_ret2
      rw [HE.out, HF.out]
      exact ⟨⟨_, rfl, OwnE_mono HQ.out.own HBL.out.size⟩, below_seq HBL.out HQ.out.bel⟩
    replace hj : j ≤ wd.length := by omega
    have hl1024 := HLEN.out
    have hmin : min j wd.length = j := Nat.min_eq_left hj
    rw [hmin] at HQ
    clear hend HFin hmin
    have d1 : (j : Int) ≤ (wd.length : Int) := by omega
    go_upto_region 13 with fail
    clear d1
    have HC0 : Hid (∀ wz, Below w2.heap.size w2 wz → Blk wz w.heap.size 25 (tc m A c B d C e)) := Lib.hid (fun wz hz => BX.out.keep hz)
    have hsz : w2.heap.size ≤ wr.heap.size := HQ.out.bel.size
    go_cut [55] (fun b wx => b = .bool (decide (j < wd.length)) ∧ wx = wr)
    case first =>
      go_wp2_with fail
      go_meet
      exact ⟨rfl, rfl⟩
    case rest =>
    obtain ⟨rfl, rfl⟩ := hcut
    rename World => wr
    apply_assumption
    go_cut [14] (fun x wx => x = .int .i64 (Tm.lim wd en j) ∧ wx = wr)
    case first =>
      by_cases hjl : j < wd.length
      · have hlim : Tm.lim wd en j = Tm.nowT wd (j + 1) := by unfold Tm.lim; rw [if_pos hjl]
        obtain ⟨adt, tt, rfl, htt, ctt⟩ := HRT.out.at_ (i := j) (by rw [timesL_len]; exact hjl)
        rw [timesL_get wd hjl, ← hlim] at htt
        subst htt
        have ct := keep_cell HQ.out.bel ctt
        have hjl' : (j : Int) < (wd.length : Int) := by omega
        clear hlim ctt
        generalize Tm.lim wd en j = lm at *
        go_wp2_with fail
        go_meet
        exact ⟨rfl, rfl⟩
      · have hlim : Tm.lim wd en j = en := by unfold Tm.lim; rw [if_neg hjl]
        have HLIM := Lib.hid hlim
        have hjl' : ¬ (j : Int) < (wd.length : Int) := by omega
        clear hlim
        go_wp2_with fail
        go_meet
        exact ⟨by rw [HLIM.out], rfl⟩
    case rest =>
    obtain ⟨rfl, rfl⟩ := hcut
    have HL := Lib.hid (Tm.lim_bd (i := j) HWD.out)
    generalize hlm : Tm.lim wd en j = lm at *
    have HLM := Lib.hid hlm
    clear hlm
    go_wp2_with (first | (refine wpList_load_row rfl 90 _ rfl k12 rfl 90 #[.int .i64 (st.c.1 : Nat), .slice (some ⟨g1, 0, none⟩) T T, .slice (some ⟨g2, 0, none⟩) T T] (0, 0) _ HQ.out.blk Try.underlying90 rfl (by kernel_rfl) ?_))
    refine (due_r T st.c st.at_ lm g1 g2 T T _ h4 HQ.out.r1 HQ.out.r2).mono ?_
    rintro r wd1 ⟨rfl, hb⟩
    have HQ1 : Hid (Rq m k T wd en (Tm.runV m k T S wd en) j k12 w2.heap.size w2 wd1 st g1 g2 u11) := Lib.hid (HQ.out.on hb hsz)
    clear hb HQ hsz
    rename World => wd1
    go_wp2_with fail
    go_loopw [11, 15] (fun v x wy => ∃ st g1 g2, x = .int .i64 (Tm.dueF st.c st.at_ lm T) ∧ Hid (Rq m k T wd en (Tm.runV m k T S wd en) j k12 w2.heap.size w2 wy st g1 g2 v) ∧ ¬ 10000 < st.ev.length) (fun v _ _ => 10001 - lenOf v)
    case atStart => exact ⟨st, g1, g2, rfl, HQ1, hfew⟩
    case round =>
      clear HQ1 hfew
      obtain ⟨st, g1, g2, rfl, HQ, hfew⟩ := hrel
      rename World => wy
      have hsz : w2.heap.size ≤ wy.heap.size := HQ.out.bel.size
      obtain ⟨EE, cE, rfl⟩ := own_slice HQ.out.own
      by_cases hneg : Tm.dueF st.c st.at_ lm T < 0
      · have HN : Hid (Tm.dueF st.c st.at_ lm T < 0) := Lib.hid hneg
        obtain ⟨q, hq⟩ : ∃ q, q = Tm.dueF st.c st.at_ lm T := ⟨_, rfl⟩
        rw [← hq] at hneg ⊢
        clear hq
        by_cases hjl : j < wd.length
        rotate_left
        · have hjl' : ¬ (j : Int) < (wd.length : Int) := by omega
          go_wp2_with fail
          go_roundw
          case rel => exact ⟨j + 1, by omega, by go_num, st, g1, g2, (by rw [show min (j + 1) wd.length = j by omega]; exact HQ), Lib.hid (fun _ => HQ.out.ex.fin hfew (by have := HLM.out; unfold Tm.lim at this; rw [if_neg hjl] at this; rw [this]; exact HN.out) hjl), hfew⟩
          case measure => simp [intOf] <;> omega
        have hjl' : (j : Int) < (wd.length : Int) := by omega
        obtain ⟨adw, dl, z, rfl, hdz, e0, e1⟩ := HD2.out.at_ hjl
        have hz : z = (Tm.inp wd j : Int) := by have := HWD.out.i0 j hjl; rw [hdz] at this; exact this
        subst hz
        have e1' := cell_fld (keep_cell HQ.out.bel e1) (by decide)
        have hlim : lm = Tm.nowT wd (j + 1) := by rw [← HLM.out]; unfold Tm.lim; rw [if_pos hjl]
        have HEX := Lib.hid (HQ.out.ex.input HM.out HWD.out hfew (by rw [← hlim]; exact HN.out) hjl)
        rw [← hlim] at HEX
        have hi1 := HWD.out.i1 j hjl
        clear hdz e0 e1 hlim
        go_upto_region 24 with fail
        clear hneg
        go_cut [18, 19] (fun p q wx => R18 T wy (Tm.aftC m k st.c (Tm.inp wd j)) (newAt m st.c st.at_ (Tm.inp wd j) lm) (Tm.evt m st.c (Tm.inp wd j) lm) p q wx)
        case first =>
          refine wp_region_held_drew (S := fun wx => Below wy.heap.size wy wx) (by kernel_rfl) ((Below.refl _ _).drew) (fun hS => ?_)
          refine takeH (i := 0) (d := some 96) (v := .agg #[.int .i64 m.I, .int .i64 m.T, .int .i64 m.S, .slice A m.nx.length c, .slice B m.out.length d, .slice C m.set.length e]) rfl rfl (by kernel_rfl) (by kernel_rfl) (by kernel_rfl) (fun _ _ _ h => h) (yieldsIf_load_any (by rfl) 25 _ rfl ⟨w.heap.size, 0, none⟩ rfl [.int .i64 m.I, .int .i64 m.T, .int .i64 m.S, .slice A m.nx.length c, .slice B m.out.length d, .slice C m.set.length e] _ (fun wx hSx => ((HC0.out wx (HQ.out.bel.trans (Below.mono hSx hsz))).part 0 _ rfl)) Try.underlying25 rfl (by kernel_rfl)) hS ?_
          simp only [Act.put, List.setIfInBounds_toArray, List.set_cons_zero, List.set_cons_succ]
          refine takeH (i := 1) (d := some 97) (v := .agg #[.int .i64 (st.c.1 : Nat), .slice (some ⟨g1, 0, none⟩) T T, .slice (some ⟨g2, 0, none⟩) T T]) rfl rfl (by kernel_rfl) (by kernel_rfl) (by kernel_rfl) (fun _ _ _ h => h) (yieldsIf_load_any (by rfl) 90 _ rfl ⟨k12, 0, none⟩ rfl [.int .i64 (st.c.1 : Nat), .slice (some ⟨g1, 0, none⟩) T T, .slice (some ⟨g2, 0, none⟩) T T] _ (fun wx hSx => ((HQ.out.blk.keep hSx).part 0 _ rfl)) Try.underlying90 rfl (by kernel_rfl)) hS ?_
          simp only [Act.put, List.setIfInBounds_toArray, List.set_cons_zero, List.set_cons_succ]
          refine takeH (i := 2) (d := some 98) (v := ?_) rfl rfl (by kernel_rfl) (by kernel_rfl) (by kernel_rfl) (fun _ _ _ h => h) (Or.inl ⟨by rfl, ?_⟩) hS ?_
          rotate_left
          · intro wx hSx; clear hSx; first | (go_simp; done) | (go_simp; with_reducible rfl)
          simp only [Act.put, List.setIfInBounds_toArray, List.set_cons_zero, List.set_cons_succ]
          refine takeH (i := 3) (d := some 99) (v := ?_) rfl rfl (by kernel_rfl) (by kernel_rfl) (by kernel_rfl) (fun _ _ _ h => h) (Or.inl ⟨by rfl, ?_⟩) hS ?_
          rotate_left
          · intro wx hSx; clear hSx; first | (go_simp; done) | (go_simp; with_reducible rfl)
          simp only [Act.put, List.setIfInBounds_toArray, List.set_cons_zero, List.set_cons_succ]
          refine takeH (i := 4) (d := some 100) (v := ?_) rfl rfl (by kernel_rfl) (by kernel_rfl) (by kernel_rfl) (fun _ _ _ h => h) (Or.inl ⟨by rfl, ?_⟩) hS ?_
          rotate_left
          · intro wx hSx; clear hSx; first | (go_simp; done) | (go_simp; with_reducible rfl)
          simp only [Act.put, List.setIfInBounds_toArray, List.set_cons_zero, List.set_cons_succ]
          refine takeH (i := 5) (d := some 101) (v := ?_) rfl rfl (by kernel_rfl) (by kernel_rfl) (by kernel_rfl) (fun _ _ _ h => h) (Or.inl ⟨by rfl, ?_⟩) hS ?_
          rotate_left
          · intro wx hSx; clear hSx; first | (go_simp; done) | (go_simp; with_reducible rfl)
          simp only [Act.put, List.setIfInBounds_toArray, List.set_cons_zero, List.set_cons_succ]
          refine takeH (i := 6) (d := some 102) (v := ?_) rfl rfl (by kernel_rfl) (by kernel_rfl) (by kernel_rfl) (fun _ _ _ h => h) (Or.inl ⟨by rfl, ?_⟩) hS ?_
          rotate_left
          · intro wx hSx; have hSy : Below wy.heap.size wy wx := hSx; have e0 := keep_cell hSy e1'; clear hSy hSx; first | (go_simp; done) | (go_simp; with_reducible rfl)
          simp only [Act.put, List.setIfInBounds_toArray, List.set_cons_zero, List.set_cons_succ]
          refine takeH (i := 7) (d := some 103) (v := ?_) rfl rfl (by kernel_rfl) (by kernel_rfl) (by kernel_rfl) (fun _ _ _ h => h) (Or.inl ⟨by rfl, ?_⟩) hS ?_
          rotate_left
          · intro wx hSx; clear hSx; first | (go_simp; done) | (go_simp; with_reducible rfl)
          simp only [Act.put, List.setIfInBounds_toArray, List.set_cons_zero, List.set_cons_succ]
          generalize hwa : World.drew _ = wa at hS ⊢
          clear hwa
          have HSa := Lib.hid hS
          clear hS
          refine wpAnyH_ready (rs := [8, 12, 13]) (by kernel_rfl) (by simp) ?_
          refine AllReadyH.cons rfl (fun K hK => ?_) (AllReadyH.cons rfl (fun K hK => ?_) (AllReadyH.cons rfl (fun K hK => ?_) AllReadyH.nil))
          · skip
            rw [if_pos (by rfl)]
            try go_simp
            have HQa := Lib.hid (HQ.out.on HSa.out hsz)
            refine (taken_r m k T S A B C c d e T T g1 g2 st.c st.at_ lm (Tm.inp wd j) wa HM.out HQ.out.ex.ok.c (by omega) (HT2.out.keep HQa.out.bel) HQa.out.r1 HQa.out.r2 HL.out.1 HL.out.2).mono ?_
            rintro r wv ⟨⟨gN, gF, rfl, hgN, hgF, -, -⟩, hb⟩
            refine hK.out _ _ (below_seq HSa.out hb) (fun hS2 => ?_)
            clear hK K HQa
            try simp only [Act.put, List.setIfInBounds_toArray, List.set_cons_zero, List.set_cons_succ]
            have RN := Lib.hid hgN
            have RF := Lib.hid hgF
            replace HSa := Lib.hid hS2
            clear hS2 hb hgN hgF wa
            rename World => wa
            refine takeH (i := 9) (d := some 95) (v := ?_) rfl rfl (by kernel_rfl) (by kernel_rfl) (by kernel_rfl) (fun _ _ _ h => h) (Or.inl ⟨by rfl, ?_⟩) HSa.out ?_
            rotate_left
            · intro wx hSx; clear hSx; first | (go_simp; done) | (go_simp; with_reducible rfl)
            simp only [Act.put, List.setIfInBounds_toArray, List.set_cons_zero, List.set_cons_succ]
            refine takeH (i := 10) (d := some 105) (v := ?_) rfl rfl (by kernel_rfl) (by kernel_rfl) (by kernel_rfl) (fun _ _ _ h => h) (Or.inl ⟨by rfl, ?_⟩) HSa.out ?_
            rotate_left
            · intro wx hSx; clear hSx; first | (go_simp; done) | (go_simp; with_reducible rfl)
            simp only [Act.put, List.setIfInBounds_toArray, List.set_cons_zero, List.set_cons_succ]
            refine takeH (i := 11) (d := some 106) (v := ?_) rfl rfl (by kernel_rfl) (by kernel_rfl) (by kernel_rfl) (fun _ _ _ h => h) (Or.inl ⟨by rfl, ?_⟩) HSa.out ?_
            rotate_left
            · intro wx hSx; clear hSx; first | (go_simp; done) | (go_simp; with_reducible rfl)
            simp only [Act.put, List.setIfInBounds_toArray, List.set_cons_zero, List.set_cons_succ]
            refine wpAnyH_ready (rs := [12, 13]) (by kernel_rfl) (by simp) ?_
            refine AllReadyH.cons rfl (fun K hK => ?_) (AllReadyH.cons rfl (fun K hK => ?_) AllReadyH.nil)
            · skip
              rw [if_pos (by rfl)]
              go_simp
              refine hK.out _ _ (Below.alloc HSa.out HSa.out.size _) (fun hS2 => ?_)
              clear hK K
              try simp only [Act.put, List.setIfInBounds_toArray, List.set_cons_zero, List.set_cons_succ]
              generalize hwb : World.alloc _ _ = wb at hS2 ⊢
              have hal : Below wa.heap.size wa wb := by rw [← hwb]; exact (Below.refl _ _).alloc (Nat.le_refl _) _
              have K16 : Hid (Blk wb wa.heap.size 90 #[.int .i64 0, .slice none 0 0, .slice none 0 0]) := Lib.hid (by rw [← hwb]; exact Blk.new _ _ _)
              have hgeK16 : wy.heap.size ≤ wa.heap.size := HSa.out.size
              replace RN := Lib.hid (rowIs_keep RN.out hal)
              replace RF := Lib.hid (rowIs_keep RF.out hal)
              replace HSa := Lib.hid hS2
              generalize wa.heap.size = kK16 at *
              clear hS2 hwb hal
              rename World => wa
              refine wpAnyH_ready (rs := [13]) (by kernel_rfl) (by simp) ?_
              refine AllReadyH.cons rfl (fun K hK => ?_) AllReadyH.nil
              rw [if_pos (by rfl)]
              go_simp
              refine hK.out _ _ (Below.alloc HSa.out HSa.out.size _) (fun hS2 => ?_)
              clear hK K
              try simp only [Act.put, List.setIfInBounds_toArray, List.set_cons_zero, List.set_cons_succ]
              generalize hwb : World.alloc _ _ = wb at hS2 ⊢
              have hal : Below wa.heap.size wa wb := by rw [← hwb]; exact (Below.refl _ _).alloc (Nat.le_refl _) _
              have K17 : Hid (Blk wb wa.heap.size 53 #[.int .i64 0, .int .i64 0, .int .i64 0]) := Lib.hid (by rw [← hwb]; exact Blk.new _ _ _)
              have hgeK17 : wy.heap.size ≤ wa.heap.size := HSa.out.size
              replace RN := Lib.hid (rowIs_keep RN.out hal)
              replace RF := Lib.hid (rowIs_keep RF.out hal)
              replace K16 := Lib.hid (K16.out.keep hal)
              replace HSa := Lib.hid hS2
              generalize wa.heap.size = kK17 at *
              clear hS2 hwb hal
              rename World => wa
              refine wpAnyH_ready (rs := [14]) (by kernel_rfl) (by simp) ?_
              refine AllReadyH.cons rfl (fun K hK => ?_) AllReadyH.nil
              rw [if_pos (by rfl)]
              refine wp_store_row 90 _ _ rfl kK16 #[.int .i64 ((Tm.aftC m k st.c (Tm.inp wd j)).1 : Nat), .slice (some ⟨gN, 0, none⟩) T T, .slice (some ⟨gF, 0, none⟩) T T] rfl rfl 90 _ K16.out (by kernel_rfl) rfl (by simp [Value.oneCell']) ?_
              refine hK.out _ _ (below_row HSa.out hgeK16 _) (fun hS2 => ?_)
              clear hK K
              change wpAnyH _ _ _ _ _ _ _ (Act.put _ none _) _
              try simp only [Act.put]
              generalize hwb : World.setRow _ _ _ = wb at hS2 ⊢
              replace RN := Lib.hid (show wb.rowIs _ _ _ _ by rw [← hwb]; exact rowIs_far RN.out (rowIs_ne RN.out K16.out (by decide)))
              replace RF := Lib.hid (show wb.rowIs _ _ _ _ by rw [← hwb]; exact rowIs_far RF.out (rowIs_ne RF.out K16.out (by decide)))
              replace K17 := Lib.hid (show Blk wb _ _ _ by rw [← hwb]; exact far_row_blk K17.out (Blk.ne_ K17.out K16.out (by decide)))
              replace K16 := Lib.hid (show Blk wb _ _ #[.int .i64 ((Tm.aftC m k st.c (Tm.inp wd j)).1 : Nat), .slice (some ⟨gN, 0, none⟩) T T, .slice (some ⟨gF, 0, none⟩) T T] by rw [← hwb]; exact set_row_blk K16.out)
              replace HSa := Lib.hid hS2
              clear hS2 hwb wa
              rename World => wa
              refine wpAnyH_ready (rs := [15]) (by kernel_rfl) (by simp) ?_
              refine AllReadyH.cons rfl (fun K hK => ?_) AllReadyH.nil
              rw [if_pos (by rfl)]
              refine wp_store_row 53 _ _ rfl kK17 #[.int .i64 (Tm.evt m st.c (Tm.inp wd j) lm).1, .int .i64 (Tm.evt m st.c (Tm.inp wd j) lm).2.1, .int .i64 (Tm.evt m st.c (Tm.inp wd j) lm).2.2] rfl rfl 53 _ K17.out (by kernel_rfl) rfl (by simp [Value.oneCell']) ?_
              refine hK.out _ _ (below_row HSa.out hgeK17 _) (fun hS2 => ?_)
              clear hK K
              change wpAnyH _ _ _ _ _ _ _ (Act.put _ none _) _
              try simp only [Act.put]
              generalize hwb : World.setRow _ _ _ = wb at hS2 ⊢
              replace RN := Lib.hid (show wb.rowIs _ _ _ _ by rw [← hwb]; exact rowIs_far RN.out (rowIs_ne RN.out K17.out (by decide)))
              replace RF := Lib.hid (show wb.rowIs _ _ _ _ by rw [← hwb]; exact rowIs_far RF.out (rowIs_ne RF.out K17.out (by decide)))
              replace K16 := Lib.hid (show Blk wb _ _ _ by rw [← hwb]; exact far_row_blk K16.out (Blk.ne_ K16.out K17.out (by decide)))
              replace K17 := Lib.hid (show Blk wb _ _ #[.int .i64 (Tm.evt m st.c (Tm.inp wd j) lm).1, .int .i64 (Tm.evt m st.c (Tm.inp wd j) lm).2.1, .int .i64 (Tm.evt m st.c (Tm.inp wd j) lm).2.2] by rw [← hwb]; exact set_row_blk K17.out)
              replace HSa := Lib.hid hS2
              clear hS2 hwb wa
              rename World => wa
              refine wpAnyH_done (by kernel_rfl) ?_ _
              go_wp2_with fail
              go_meet
              exact ⟨kK16, kK17, gN, gF, rfl, rfl, K16.out, K17.out, RN.out, RF.out, hgeK16, hgeK17, HSa.out⟩
            · skip
              rw [if_pos (by rfl)]
              go_simp
              refine hK.out _ _ (Below.alloc HSa.out HSa.out.size _) (fun hS2 => ?_)
              clear hK K
              try simp only [Act.put, List.setIfInBounds_toArray, List.set_cons_zero, List.set_cons_succ]
              generalize hwb : World.alloc _ _ = wb at hS2 ⊢
              have hal : Below wa.heap.size wa wb := by rw [← hwb]; exact (Below.refl _ _).alloc (Nat.le_refl _) _
              have K17 : Hid (Blk wb wa.heap.size 53 #[.int .i64 0, .int .i64 0, .int .i64 0]) := Lib.hid (by rw [← hwb]; exact Blk.new _ _ _)
              have hgeK17 : wy.heap.size ≤ wa.heap.size := HSa.out.size
              replace RN := Lib.hid (rowIs_keep RN.out hal)
              replace RF := Lib.hid (rowIs_keep RF.out hal)
              replace HSa := Lib.hid hS2
              generalize wa.heap.size = kK17 at *
              clear hS2 hwb hal
              rename World => wa
              refine wpAnyH_ready (rs := [12]) (by kernel_rfl) (by simp) ?_
              refine AllReadyH.cons rfl (fun K hK => ?_) AllReadyH.nil
              rw [if_pos (by rfl)]
              go_simp
              refine hK.out _ _ (Below.alloc HSa.out HSa.out.size _) (fun hS2 => ?_)
              clear hK K
              try simp only [Act.put, List.setIfInBounds_toArray, List.set_cons_zero, List.set_cons_succ]
              generalize hwb : World.alloc _ _ = wb at hS2 ⊢
              have hal : Below wa.heap.size wa wb := by rw [← hwb]; exact (Below.refl _ _).alloc (Nat.le_refl _) _
              have K16 : Hid (Blk wb wa.heap.size 90 #[.int .i64 0, .slice none 0 0, .slice none 0 0]) := Lib.hid (by rw [← hwb]; exact Blk.new _ _ _)
              have hgeK16 : wy.heap.size ≤ wa.heap.size := HSa.out.size
              replace RN := Lib.hid (rowIs_keep RN.out hal)
              replace RF := Lib.hid (rowIs_keep RF.out hal)
              replace K17 := Lib.hid (K17.out.keep hal)
              replace HSa := Lib.hid hS2
              generalize wa.heap.size = kK16 at *
              clear hS2 hwb hal
              rename World => wa
              refine wpAnyH_ready (rs := [14]) (by kernel_rfl) (by simp) ?_
              refine AllReadyH.cons rfl (fun K hK => ?_) AllReadyH.nil
              rw [if_pos (by rfl)]
              refine wp_store_row 90 _ _ rfl kK16 #[.int .i64 ((Tm.aftC m k st.c (Tm.inp wd j)).1 : Nat), .slice (some ⟨gN, 0, none⟩) T T, .slice (some ⟨gF, 0, none⟩) T T] rfl rfl 90 _ K16.out (by kernel_rfl) rfl (by simp [Value.oneCell']) ?_
              refine hK.out _ _ (below_row HSa.out hgeK16 _) (fun hS2 => ?_)
              clear hK K
              change wpAnyH _ _ _ _ _ _ _ (Act.put _ none _) _
              try simp only [Act.put]
              generalize hwb : World.setRow _ _ _ = wb at hS2 ⊢
              replace RN := Lib.hid (show wb.rowIs _ _ _ _ by rw [← hwb]; exact rowIs_far RN.out (rowIs_ne RN.out K16.out (by decide)))
              replace RF := Lib.hid (show wb.rowIs _ _ _ _ by rw [← hwb]; exact rowIs_far RF.out (rowIs_ne RF.out K16.out (by decide)))
              replace K17 := Lib.hid (show Blk wb _ _ _ by rw [← hwb]; exact far_row_blk K17.out (Blk.ne_ K17.out K16.out (by decide)))
              replace K16 := Lib.hid (show Blk wb _ _ #[.int .i64 ((Tm.aftC m k st.c (Tm.inp wd j)).1 : Nat), .slice (some ⟨gN, 0, none⟩) T T, .slice (some ⟨gF, 0, none⟩) T T] by rw [← hwb]; exact set_row_blk K16.out)
              replace HSa := Lib.hid hS2
              clear hS2 hwb wa
              rename World => wa
              refine wpAnyH_ready (rs := [15]) (by kernel_rfl) (by simp) ?_
              refine AllReadyH.cons rfl (fun K hK => ?_) AllReadyH.nil
              rw [if_pos (by rfl)]
              refine wp_store_row 53 _ _ rfl kK17 #[.int .i64 (Tm.evt m st.c (Tm.inp wd j) lm).1, .int .i64 (Tm.evt m st.c (Tm.inp wd j) lm).2.1, .int .i64 (Tm.evt m st.c (Tm.inp wd j) lm).2.2] rfl rfl 53 _ K17.out (by kernel_rfl) rfl (by simp [Value.oneCell']) ?_
              refine hK.out _ _ (below_row HSa.out hgeK17 _) (fun hS2 => ?_)
              clear hK K
              change wpAnyH _ _ _ _ _ _ _ (Act.put _ none _) _
              try simp only [Act.put]
              generalize hwb : World.setRow _ _ _ = wb at hS2 ⊢
              replace RN := Lib.hid (show wb.rowIs _ _ _ _ by rw [← hwb]; exact rowIs_far RN.out (rowIs_ne RN.out K17.out (by decide)))
              replace RF := Lib.hid (show wb.rowIs _ _ _ _ by rw [← hwb]; exact rowIs_far RF.out (rowIs_ne RF.out K17.out (by decide)))
              replace K16 := Lib.hid (show Blk wb _ _ _ by rw [← hwb]; exact far_row_blk K16.out (Blk.ne_ K16.out K17.out (by decide)))
              replace K17 := Lib.hid (show Blk wb _ _ #[.int .i64 (Tm.evt m st.c (Tm.inp wd j) lm).1, .int .i64 (Tm.evt m st.c (Tm.inp wd j) lm).2.1, .int .i64 (Tm.evt m st.c (Tm.inp wd j) lm).2.2] by rw [← hwb]; exact set_row_blk K17.out)
              replace HSa := Lib.hid hS2
              clear hS2 hwb wa
              rename World => wa
              refine wpAnyH_done (by kernel_rfl) ?_ _
              go_wp2_with fail
              go_meet
              exact ⟨kK16, kK17, gN, gF, rfl, rfl, K16.out, K17.out, RN.out, RF.out, hgeK16, hgeK17, HSa.out⟩
          · skip
            rw [if_pos (by rfl)]
            go_simp
            refine hK.out _ _ (Below.alloc HSa.out HSa.out.size _) (fun hS2 => ?_)
            clear hK K
            try simp only [Act.put, List.setIfInBounds_toArray, List.set_cons_zero, List.set_cons_succ]
            generalize hwb : World.alloc _ _ = wb at hS2 ⊢
            have hal : Below wa.heap.size wa wb := by rw [← hwb]; exact (Below.refl _ _).alloc (Nat.le_refl _) _
            have K16 : Hid (Blk wb wa.heap.size 90 #[.int .i64 0, .slice none 0 0, .slice none 0 0]) := Lib.hid (by rw [← hwb]; exact Blk.new _ _ _)
            have hgeK16 : wy.heap.size ≤ wa.heap.size := HSa.out.size
            replace HSa := Lib.hid hS2
            generalize wa.heap.size = kK16 at *
            clear hS2 hwb hal
            rename World => wa
            refine wpAnyH_ready (rs := [8, 13]) (by kernel_rfl) (by simp) ?_
            refine AllReadyH.cons rfl (fun K hK => ?_) (AllReadyH.cons rfl (fun K hK => ?_) AllReadyH.nil)
            · skip
              rw [if_pos (by rfl)]
              try go_simp
              have HQa := Lib.hid (HQ.out.on HSa.out hsz)
              refine (taken_r m k T S A B C c d e T T g1 g2 st.c st.at_ lm (Tm.inp wd j) wa HM.out HQ.out.ex.ok.c (by omega) (HT2.out.keep HQa.out.bel) HQa.out.r1 HQa.out.r2 HL.out.1 HL.out.2).mono ?_
              rintro r wv ⟨⟨gN, gF, rfl, hgN, hgF, -, -⟩, hb⟩
              refine hK.out _ _ (below_seq HSa.out hb) (fun hS2 => ?_)
              clear hK K HQa
              try simp only [Act.put, List.setIfInBounds_toArray, List.set_cons_zero, List.set_cons_succ]
              have RN := Lib.hid hgN
              have RF := Lib.hid hgF
              replace K16 := Lib.hid (K16.out.keep hb)
              replace HSa := Lib.hid hS2
              clear hS2 hb hgN hgF wa
              rename World => wa
              refine takeH (i := 9) (d := some 95) (v := ?_) rfl rfl (by kernel_rfl) (by kernel_rfl) (by kernel_rfl) (fun _ _ _ h => h) (Or.inl ⟨by rfl, ?_⟩) HSa.out ?_
              rotate_left
              · intro wx hSx; clear hSx; first | (go_simp; done) | (go_simp; with_reducible rfl)
              simp only [Act.put, List.setIfInBounds_toArray, List.set_cons_zero, List.set_cons_succ]
              refine takeH (i := 10) (d := some 105) (v := ?_) rfl rfl (by kernel_rfl) (by kernel_rfl) (by kernel_rfl) (fun _ _ _ h => h) (Or.inl ⟨by rfl, ?_⟩) HSa.out ?_
              rotate_left
              · intro wx hSx; clear hSx; first | (go_simp; done) | (go_simp; with_reducible rfl)
              simp only [Act.put, List.setIfInBounds_toArray, List.set_cons_zero, List.set_cons_succ]
              refine takeH (i := 11) (d := some 106) (v := ?_) rfl rfl (by kernel_rfl) (by kernel_rfl) (by kernel_rfl) (fun _ _ _ h => h) (Or.inl ⟨by rfl, ?_⟩) HSa.out ?_
              rotate_left
              · intro wx hSx; clear hSx; first | (go_simp; done) | (go_simp; with_reducible rfl)
              simp only [Act.put, List.setIfInBounds_toArray, List.set_cons_zero, List.set_cons_succ]
              refine wpAnyH_ready (rs := [13]) (by kernel_rfl) (by simp) ?_
              refine AllReadyH.cons rfl (fun K hK => ?_) AllReadyH.nil
              rw [if_pos (by rfl)]
              go_simp
              refine hK.out _ _ (Below.alloc HSa.out HSa.out.size _) (fun hS2 => ?_)
              clear hK K
              try simp only [Act.put, List.setIfInBounds_toArray, List.set_cons_zero, List.set_cons_succ]
              generalize hwb : World.alloc _ _ = wb at hS2 ⊢
              have hal : Below wa.heap.size wa wb := by rw [← hwb]; exact (Below.refl _ _).alloc (Nat.le_refl _) _
              have K17 : Hid (Blk wb wa.heap.size 53 #[.int .i64 0, .int .i64 0, .int .i64 0]) := Lib.hid (by rw [← hwb]; exact Blk.new _ _ _)
              have hgeK17 : wy.heap.size ≤ wa.heap.size := HSa.out.size
              replace RN := Lib.hid (rowIs_keep RN.out hal)
              replace RF := Lib.hid (rowIs_keep RF.out hal)
              replace K16 := Lib.hid (K16.out.keep hal)
              replace HSa := Lib.hid hS2
              generalize wa.heap.size = kK17 at *
              clear hS2 hwb hal
              rename World => wa
              refine wpAnyH_ready (rs := [14]) (by kernel_rfl) (by simp) ?_
              refine AllReadyH.cons rfl (fun K hK => ?_) AllReadyH.nil
              rw [if_pos (by rfl)]
              refine wp_store_row 90 _ _ rfl kK16 #[.int .i64 ((Tm.aftC m k st.c (Tm.inp wd j)).1 : Nat), .slice (some ⟨gN, 0, none⟩) T T, .slice (some ⟨gF, 0, none⟩) T T] rfl rfl 90 _ K16.out (by kernel_rfl) rfl (by simp [Value.oneCell']) ?_
              refine hK.out _ _ (below_row HSa.out hgeK16 _) (fun hS2 => ?_)
              clear hK K
              change wpAnyH _ _ _ _ _ _ _ (Act.put _ none _) _
              try simp only [Act.put]
              generalize hwb : World.setRow _ _ _ = wb at hS2 ⊢
              replace RN := Lib.hid (show wb.rowIs _ _ _ _ by rw [← hwb]; exact rowIs_far RN.out (rowIs_ne RN.out K16.out (by decide)))
              replace RF := Lib.hid (show wb.rowIs _ _ _ _ by rw [← hwb]; exact rowIs_far RF.out (rowIs_ne RF.out K16.out (by decide)))
              replace K17 := Lib.hid (show Blk wb _ _ _ by rw [← hwb]; exact far_row_blk K17.out (Blk.ne_ K17.out K16.out (by decide)))
              replace K16 := Lib.hid (show Blk wb _ _ #[.int .i64 ((Tm.aftC m k st.c (Tm.inp wd j)).1 : Nat), .slice (some ⟨gN, 0, none⟩) T T, .slice (some ⟨gF, 0, none⟩) T T] by rw [← hwb]; exact set_row_blk K16.out)
              replace HSa := Lib.hid hS2
              clear hS2 hwb wa
              rename World => wa
              refine wpAnyH_ready (rs := [15]) (by kernel_rfl) (by simp) ?_
              refine AllReadyH.cons rfl (fun K hK => ?_) AllReadyH.nil
              rw [if_pos (by rfl)]
              refine wp_store_row 53 _ _ rfl kK17 #[.int .i64 (Tm.evt m st.c (Tm.inp wd j) lm).1, .int .i64 (Tm.evt m st.c (Tm.inp wd j) lm).2.1, .int .i64 (Tm.evt m st.c (Tm.inp wd j) lm).2.2] rfl rfl 53 _ K17.out (by kernel_rfl) rfl (by simp [Value.oneCell']) ?_
              refine hK.out _ _ (below_row HSa.out hgeK17 _) (fun hS2 => ?_)
              clear hK K
              change wpAnyH _ _ _ _ _ _ _ (Act.put _ none _) _
              try simp only [Act.put]
              generalize hwb : World.setRow _ _ _ = wb at hS2 ⊢
              replace RN := Lib.hid (show wb.rowIs _ _ _ _ by rw [← hwb]; exact rowIs_far RN.out (rowIs_ne RN.out K17.out (by decide)))
              replace RF := Lib.hid (show wb.rowIs _ _ _ _ by rw [← hwb]; exact rowIs_far RF.out (rowIs_ne RF.out K17.out (by decide)))
              replace K16 := Lib.hid (show Blk wb _ _ _ by rw [← hwb]; exact far_row_blk K16.out (Blk.ne_ K16.out K17.out (by decide)))
              replace K17 := Lib.hid (show Blk wb _ _ #[.int .i64 (Tm.evt m st.c (Tm.inp wd j) lm).1, .int .i64 (Tm.evt m st.c (Tm.inp wd j) lm).2.1, .int .i64 (Tm.evt m st.c (Tm.inp wd j) lm).2.2] by rw [← hwb]; exact set_row_blk K17.out)
              replace HSa := Lib.hid hS2
              clear hS2 hwb wa
              rename World => wa
              refine wpAnyH_done (by kernel_rfl) ?_ _
              go_wp2_with fail
              go_meet
              exact ⟨kK16, kK17, gN, gF, rfl, rfl, K16.out, K17.out, RN.out, RF.out, hgeK16, hgeK17, HSa.out⟩
            · skip
              rw [if_pos (by rfl)]
              go_simp
              refine hK.out _ _ (Below.alloc HSa.out HSa.out.size _) (fun hS2 => ?_)
              clear hK K
              try simp only [Act.put, List.setIfInBounds_toArray, List.set_cons_zero, List.set_cons_succ]
              generalize hwb : World.alloc _ _ = wb at hS2 ⊢
              have hal : Below wa.heap.size wa wb := by rw [← hwb]; exact (Below.refl _ _).alloc (Nat.le_refl _) _
              have K17 : Hid (Blk wb wa.heap.size 53 #[.int .i64 0, .int .i64 0, .int .i64 0]) := Lib.hid (by rw [← hwb]; exact Blk.new _ _ _)
              have hgeK17 : wy.heap.size ≤ wa.heap.size := HSa.out.size
              replace K16 := Lib.hid (K16.out.keep hal)
              replace HSa := Lib.hid hS2
              generalize wa.heap.size = kK17 at *
              clear hS2 hwb hal
              rename World => wa
              refine wpAnyH_ready (rs := [8]) (by kernel_rfl) (by simp) ?_
              refine AllReadyH.cons rfl (fun K hK => ?_) AllReadyH.nil
              rw [if_pos (by rfl)]
              try go_simp
              have HQa := Lib.hid (HQ.out.on HSa.out hsz)
              refine (taken_r m k T S A B C c d e T T g1 g2 st.c st.at_ lm (Tm.inp wd j) wa HM.out HQ.out.ex.ok.c (by omega) (HT2.out.keep HQa.out.bel) HQa.out.r1 HQa.out.r2 HL.out.1 HL.out.2).mono ?_
              rintro r wv ⟨⟨gN, gF, rfl, hgN, hgF, -, -⟩, hb⟩
              refine hK.out _ _ (below_seq HSa.out hb) (fun hS2 => ?_)
              clear hK K HQa
              try simp only [Act.put, List.setIfInBounds_toArray, List.set_cons_zero, List.set_cons_succ]
              have RN := Lib.hid hgN
              have RF := Lib.hid hgF
              replace K16 := Lib.hid (K16.out.keep hb)
              replace K17 := Lib.hid (K17.out.keep hb)
              replace HSa := Lib.hid hS2
              clear hS2 hb hgN hgF wa
              rename World => wa
              refine takeH (i := 9) (d := some 95) (v := ?_) rfl rfl (by kernel_rfl) (by kernel_rfl) (by kernel_rfl) (fun _ _ _ h => h) (Or.inl ⟨by rfl, ?_⟩) HSa.out ?_
              rotate_left
              · intro wx hSx; clear hSx; first | (go_simp; done) | (go_simp; with_reducible rfl)
              simp only [Act.put, List.setIfInBounds_toArray, List.set_cons_zero, List.set_cons_succ]
              refine takeH (i := 10) (d := some 105) (v := ?_) rfl rfl (by kernel_rfl) (by kernel_rfl) (by kernel_rfl) (fun _ _ _ h => h) (Or.inl ⟨by rfl, ?_⟩) HSa.out ?_
              rotate_left
              · intro wx hSx; clear hSx; first | (go_simp; done) | (go_simp; with_reducible rfl)
              simp only [Act.put, List.setIfInBounds_toArray, List.set_cons_zero, List.set_cons_succ]
              refine takeH (i := 11) (d := some 106) (v := ?_) rfl rfl (by kernel_rfl) (by kernel_rfl) (by kernel_rfl) (fun _ _ _ h => h) (Or.inl ⟨by rfl, ?_⟩) HSa.out ?_
              rotate_left
              · intro wx hSx; clear hSx; first | (go_simp; done) | (go_simp; with_reducible rfl)
              simp only [Act.put, List.setIfInBounds_toArray, List.set_cons_zero, List.set_cons_succ]
              refine wpAnyH_ready (rs := [14]) (by kernel_rfl) (by simp) ?_
              refine AllReadyH.cons rfl (fun K hK => ?_) AllReadyH.nil
              rw [if_pos (by rfl)]
              refine wp_store_row 90 _ _ rfl kK16 #[.int .i64 ((Tm.aftC m k st.c (Tm.inp wd j)).1 : Nat), .slice (some ⟨gN, 0, none⟩) T T, .slice (some ⟨gF, 0, none⟩) T T] rfl rfl 90 _ K16.out (by kernel_rfl) rfl (by simp [Value.oneCell']) ?_
              refine hK.out _ _ (below_row HSa.out hgeK16 _) (fun hS2 => ?_)
              clear hK K
              change wpAnyH _ _ _ _ _ _ _ (Act.put _ none _) _
              try simp only [Act.put]
              generalize hwb : World.setRow _ _ _ = wb at hS2 ⊢
              replace RN := Lib.hid (show wb.rowIs _ _ _ _ by rw [← hwb]; exact rowIs_far RN.out (rowIs_ne RN.out K16.out (by decide)))
              replace RF := Lib.hid (show wb.rowIs _ _ _ _ by rw [← hwb]; exact rowIs_far RF.out (rowIs_ne RF.out K16.out (by decide)))
              replace K17 := Lib.hid (show Blk wb _ _ _ by rw [← hwb]; exact far_row_blk K17.out (Blk.ne_ K17.out K16.out (by decide)))
              replace K16 := Lib.hid (show Blk wb _ _ #[.int .i64 ((Tm.aftC m k st.c (Tm.inp wd j)).1 : Nat), .slice (some ⟨gN, 0, none⟩) T T, .slice (some ⟨gF, 0, none⟩) T T] by rw [← hwb]; exact set_row_blk K16.out)
              replace HSa := Lib.hid hS2
              clear hS2 hwb wa
              rename World => wa
              refine wpAnyH_ready (rs := [15]) (by kernel_rfl) (by simp) ?_
              refine AllReadyH.cons rfl (fun K hK => ?_) AllReadyH.nil
              rw [if_pos (by rfl)]
              refine wp_store_row 53 _ _ rfl kK17 #[.int .i64 (Tm.evt m st.c (Tm.inp wd j) lm).1, .int .i64 (Tm.evt m st.c (Tm.inp wd j) lm).2.1, .int .i64 (Tm.evt m st.c (Tm.inp wd j) lm).2.2] rfl rfl 53 _ K17.out (by kernel_rfl) rfl (by simp [Value.oneCell']) ?_
              refine hK.out _ _ (below_row HSa.out hgeK17 _) (fun hS2 => ?_)
              clear hK K
              change wpAnyH _ _ _ _ _ _ _ (Act.put _ none _) _
              try simp only [Act.put]
              generalize hwb : World.setRow _ _ _ = wb at hS2 ⊢
              replace RN := Lib.hid (show wb.rowIs _ _ _ _ by rw [← hwb]; exact rowIs_far RN.out (rowIs_ne RN.out K17.out (by decide)))
              replace RF := Lib.hid (show wb.rowIs _ _ _ _ by rw [← hwb]; exact rowIs_far RF.out (rowIs_ne RF.out K17.out (by decide)))
              replace K16 := Lib.hid (show Blk wb _ _ _ by rw [← hwb]; exact far_row_blk K16.out (Blk.ne_ K16.out K17.out (by decide)))
              replace K17 := Lib.hid (show Blk wb _ _ #[.int .i64 (Tm.evt m st.c (Tm.inp wd j) lm).1, .int .i64 (Tm.evt m st.c (Tm.inp wd j) lm).2.1, .int .i64 (Tm.evt m st.c (Tm.inp wd j) lm).2.2] by rw [← hwb]; exact set_row_blk K17.out)
              replace HSa := Lib.hid hS2
              clear hS2 hwb wa
              rename World => wa
              refine wpAnyH_done (by kernel_rfl) ?_ _
              go_wp2_with fail
              go_meet
              exact ⟨kK16, kK17, gN, gF, rfl, rfl, K16.out, K17.out, RN.out, RF.out, hgeK16, hgeK17, HSa.out⟩
          · skip
            rw [if_pos (by rfl)]
            go_simp
            refine hK.out _ _ (Below.alloc HSa.out HSa.out.size _) (fun hS2 => ?_)
            clear hK K
            try simp only [Act.put, List.setIfInBounds_toArray, List.set_cons_zero, List.set_cons_succ]
            generalize hwb : World.alloc _ _ = wb at hS2 ⊢
            have hal : Below wa.heap.size wa wb := by rw [← hwb]; exact (Below.refl _ _).alloc (Nat.le_refl _) _
            have K17 : Hid (Blk wb wa.heap.size 53 #[.int .i64 0, .int .i64 0, .int .i64 0]) := Lib.hid (by rw [← hwb]; exact Blk.new _ _ _)
            have hgeK17 : wy.heap.size ≤ wa.heap.size := HSa.out.size
            replace HSa := Lib.hid hS2
            generalize wa.heap.size = kK17 at *
            clear hS2 hwb hal
            rename World => wa
            refine wpAnyH_ready (rs := [8, 12]) (by kernel_rfl) (by simp) ?_
            refine AllReadyH.cons rfl (fun K hK => ?_) (AllReadyH.cons rfl (fun K hK => ?_) AllReadyH.nil)
            · skip
              rw [if_pos (by rfl)]
              try go_simp
              have HQa := Lib.hid (HQ.out.on HSa.out hsz)
              refine (taken_r m k T S A B C c d e T T g1 g2 st.c st.at_ lm (Tm.inp wd j) wa HM.out HQ.out.ex.ok.c (by omega) (HT2.out.keep HQa.out.bel) HQa.out.r1 HQa.out.r2 HL.out.1 HL.out.2).mono ?_
              rintro r wv ⟨⟨gN, gF, rfl, hgN, hgF, -, -⟩, hb⟩
              refine hK.out _ _ (below_seq HSa.out hb) (fun hS2 => ?_)
              clear hK K HQa
              try simp only [Act.put, List.setIfInBounds_toArray, List.set_cons_zero, List.set_cons_succ]
              have RN := Lib.hid hgN
              have RF := Lib.hid hgF
              replace K17 := Lib.hid (K17.out.keep hb)
              replace HSa := Lib.hid hS2
              clear hS2 hb hgN hgF wa
              rename World => wa
              refine takeH (i := 9) (d := some 95) (v := ?_) rfl rfl (by kernel_rfl) (by kernel_rfl) (by kernel_rfl) (fun _ _ _ h => h) (Or.inl ⟨by rfl, ?_⟩) HSa.out ?_
              rotate_left
              · intro wx hSx; clear hSx; first | (go_simp; done) | (go_simp; with_reducible rfl)
              simp only [Act.put, List.setIfInBounds_toArray, List.set_cons_zero, List.set_cons_succ]
              refine takeH (i := 10) (d := some 105) (v := ?_) rfl rfl (by kernel_rfl) (by kernel_rfl) (by kernel_rfl) (fun _ _ _ h => h) (Or.inl ⟨by rfl, ?_⟩) HSa.out ?_
              rotate_left
              · intro wx hSx; clear hSx; first | (go_simp; done) | (go_simp; with_reducible rfl)
              simp only [Act.put, List.setIfInBounds_toArray, List.set_cons_zero, List.set_cons_succ]
              refine takeH (i := 11) (d := some 106) (v := ?_) rfl rfl (by kernel_rfl) (by kernel_rfl) (by kernel_rfl) (fun _ _ _ h => h) (Or.inl ⟨by rfl, ?_⟩) HSa.out ?_
              rotate_left
              · intro wx hSx; clear hSx; first | (go_simp; done) | (go_simp; with_reducible rfl)
              simp only [Act.put, List.setIfInBounds_toArray, List.set_cons_zero, List.set_cons_succ]
              refine wpAnyH_ready (rs := [12]) (by kernel_rfl) (by simp) ?_
              refine AllReadyH.cons rfl (fun K hK => ?_) AllReadyH.nil
              rw [if_pos (by rfl)]
              go_simp
              refine hK.out _ _ (Below.alloc HSa.out HSa.out.size _) (fun hS2 => ?_)
              clear hK K
              try simp only [Act.put, List.setIfInBounds_toArray, List.set_cons_zero, List.set_cons_succ]
              generalize hwb : World.alloc _ _ = wb at hS2 ⊢
              have hal : Below wa.heap.size wa wb := by rw [← hwb]; exact (Below.refl _ _).alloc (Nat.le_refl _) _
              have K16 : Hid (Blk wb wa.heap.size 90 #[.int .i64 0, .slice none 0 0, .slice none 0 0]) := Lib.hid (by rw [← hwb]; exact Blk.new _ _ _)
              have hgeK16 : wy.heap.size ≤ wa.heap.size := HSa.out.size
              replace RN := Lib.hid (rowIs_keep RN.out hal)
              replace RF := Lib.hid (rowIs_keep RF.out hal)
              replace K17 := Lib.hid (K17.out.keep hal)
              replace HSa := Lib.hid hS2
              generalize wa.heap.size = kK16 at *
              clear hS2 hwb hal
              rename World => wa
              refine wpAnyH_ready (rs := [14]) (by kernel_rfl) (by simp) ?_
              refine AllReadyH.cons rfl (fun K hK => ?_) AllReadyH.nil
              rw [if_pos (by rfl)]
              refine wp_store_row 90 _ _ rfl kK16 #[.int .i64 ((Tm.aftC m k st.c (Tm.inp wd j)).1 : Nat), .slice (some ⟨gN, 0, none⟩) T T, .slice (some ⟨gF, 0, none⟩) T T] rfl rfl 90 _ K16.out (by kernel_rfl) rfl (by simp [Value.oneCell']) ?_
              refine hK.out _ _ (below_row HSa.out hgeK16 _) (fun hS2 => ?_)
              clear hK K
              change wpAnyH _ _ _ _ _ _ _ (Act.put _ none _) _
              try simp only [Act.put]
              generalize hwb : World.setRow _ _ _ = wb at hS2 ⊢
              replace RN := Lib.hid (show wb.rowIs _ _ _ _ by rw [← hwb]; exact rowIs_far RN.out (rowIs_ne RN.out K16.out (by decide)))
              replace RF := Lib.hid (show wb.rowIs _ _ _ _ by rw [← hwb]; exact rowIs_far RF.out (rowIs_ne RF.out K16.out (by decide)))
              replace K17 := Lib.hid (show Blk wb _ _ _ by rw [← hwb]; exact far_row_blk K17.out (Blk.ne_ K17.out K16.out (by decide)))
              replace K16 := Lib.hid (show Blk wb _ _ #[.int .i64 ((Tm.aftC m k st.c (Tm.inp wd j)).1 : Nat), .slice (some ⟨gN, 0, none⟩) T T, .slice (some ⟨gF, 0, none⟩) T T] by rw [← hwb]; exact set_row_blk K16.out)
              replace HSa := Lib.hid hS2
              clear hS2 hwb wa
              rename World => wa
              refine wpAnyH_ready (rs := [15]) (by kernel_rfl) (by simp) ?_
              refine AllReadyH.cons rfl (fun K hK => ?_) AllReadyH.nil
              rw [if_pos (by rfl)]
              refine wp_store_row 53 _ _ rfl kK17 #[.int .i64 (Tm.evt m st.c (Tm.inp wd j) lm).1, .int .i64 (Tm.evt m st.c (Tm.inp wd j) lm).2.1, .int .i64 (Tm.evt m st.c (Tm.inp wd j) lm).2.2] rfl rfl 53 _ K17.out (by kernel_rfl) rfl (by simp [Value.oneCell']) ?_
              refine hK.out _ _ (below_row HSa.out hgeK17 _) (fun hS2 => ?_)
              clear hK K
              change wpAnyH _ _ _ _ _ _ _ (Act.put _ none _) _
              try simp only [Act.put]
              generalize hwb : World.setRow _ _ _ = wb at hS2 ⊢
              replace RN := Lib.hid (show wb.rowIs _ _ _ _ by rw [← hwb]; exact rowIs_far RN.out (rowIs_ne RN.out K17.out (by decide)))
              replace RF := Lib.hid (show wb.rowIs _ _ _ _ by rw [← hwb]; exact rowIs_far RF.out (rowIs_ne RF.out K17.out (by decide)))
              replace K16 := Lib.hid (show Blk wb _ _ _ by rw [← hwb]; exact far_row_blk K16.out (Blk.ne_ K16.out K17.out (by decide)))
              replace K17 := Lib.hid (show Blk wb _ _ #[.int .i64 (Tm.evt m st.c (Tm.inp wd j) lm).1, .int .i64 (Tm.evt m st.c (Tm.inp wd j) lm).2.1, .int .i64 (Tm.evt m st.c (Tm.inp wd j) lm).2.2] by rw [← hwb]; exact set_row_blk K17.out)
              replace HSa := Lib.hid hS2
              clear hS2 hwb wa
              rename World => wa
              refine wpAnyH_done (by kernel_rfl) ?_ _
              go_wp2_with fail
              go_meet
              exact ⟨kK16, kK17, gN, gF, rfl, rfl, K16.out, K17.out, RN.out, RF.out, hgeK16, hgeK17, HSa.out⟩
            · skip
              rw [if_pos (by rfl)]
              go_simp
              refine hK.out _ _ (Below.alloc HSa.out HSa.out.size _) (fun hS2 => ?_)
              clear hK K
              try simp only [Act.put, List.setIfInBounds_toArray, List.set_cons_zero, List.set_cons_succ]
              generalize hwb : World.alloc _ _ = wb at hS2 ⊢
              have hal : Below wa.heap.size wa wb := by rw [← hwb]; exact (Below.refl _ _).alloc (Nat.le_refl _) _
              have K16 : Hid (Blk wb wa.heap.size 90 #[.int .i64 0, .slice none 0 0, .slice none 0 0]) := Lib.hid (by rw [← hwb]; exact Blk.new _ _ _)
              have hgeK16 : wy.heap.size ≤ wa.heap.size := HSa.out.size
              replace K17 := Lib.hid (K17.out.keep hal)
              replace HSa := Lib.hid hS2
              generalize wa.heap.size = kK16 at *
              clear hS2 hwb hal
              rename World => wa
              refine wpAnyH_ready (rs := [8]) (by kernel_rfl) (by simp) ?_
              refine AllReadyH.cons rfl (fun K hK => ?_) AllReadyH.nil
              rw [if_pos (by rfl)]
              try go_simp
              have HQa := Lib.hid (HQ.out.on HSa.out hsz)
              refine (taken_r m k T S A B C c d e T T g1 g2 st.c st.at_ lm (Tm.inp wd j) wa HM.out HQ.out.ex.ok.c (by omega) (HT2.out.keep HQa.out.bel) HQa.out.r1 HQa.out.r2 HL.out.1 HL.out.2).mono ?_
              rintro r wv ⟨⟨gN, gF, rfl, hgN, hgF, -, -⟩, hb⟩
              refine hK.out _ _ (below_seq HSa.out hb) (fun hS2 => ?_)
              clear hK K HQa
              try simp only [Act.put, List.setIfInBounds_toArray, List.set_cons_zero, List.set_cons_succ]
              have RN := Lib.hid hgN
              have RF := Lib.hid hgF
              replace K16 := Lib.hid (K16.out.keep hb)
              replace K17 := Lib.hid (K17.out.keep hb)
              replace HSa := Lib.hid hS2
              clear hS2 hb hgN hgF wa
              rename World => wa
              refine takeH (i := 9) (d := some 95) (v := ?_) rfl rfl (by kernel_rfl) (by kernel_rfl) (by kernel_rfl) (fun _ _ _ h => h) (Or.inl ⟨by rfl, ?_⟩) HSa.out ?_
              rotate_left
              · intro wx hSx; clear hSx; first | (go_simp; done) | (go_simp; with_reducible rfl)
              simp only [Act.put, List.setIfInBounds_toArray, List.set_cons_zero, List.set_cons_succ]
              refine takeH (i := 10) (d := some 105) (v := ?_) rfl rfl (by kernel_rfl) (by kernel_rfl) (by kernel_rfl) (fun _ _ _ h => h) (Or.inl ⟨by rfl, ?_⟩) HSa.out ?_
              rotate_left
              · intro wx hSx; clear hSx; first | (go_simp; done) | (go_simp; with_reducible rfl)
              simp only [Act.put, List.setIfInBounds_toArray, List.set_cons_zero, List.set_cons_succ]
              refine takeH (i := 11) (d := some 106) (v := ?_) rfl rfl (by kernel_rfl) (by kernel_rfl) (by kernel_rfl) (fun _ _ _ h => h) (Or.inl ⟨by rfl, ?_⟩) HSa.out ?_
              rotate_left
              · intro wx hSx; clear hSx; first | (go_simp; done) | (go_simp; with_reducible rfl)
              simp only [Act.put, List.setIfInBounds_toArray, List.set_cons_zero, List.set_cons_succ]
              refine wpAnyH_ready (rs := [14]) (by kernel_rfl) (by simp) ?_
              refine AllReadyH.cons rfl (fun K hK => ?_) AllReadyH.nil
              rw [if_pos (by rfl)]
              refine wp_store_row 90 _ _ rfl kK16 #[.int .i64 ((Tm.aftC m k st.c (Tm.inp wd j)).1 : Nat), .slice (some ⟨gN, 0, none⟩) T T, .slice (some ⟨gF, 0, none⟩) T T] rfl rfl 90 _ K16.out (by kernel_rfl) rfl (by simp [Value.oneCell']) ?_
              refine hK.out _ _ (below_row HSa.out hgeK16 _) (fun hS2 => ?_)
              clear hK K
              change wpAnyH _ _ _ _ _ _ _ (Act.put _ none _) _
              try simp only [Act.put]
              generalize hwb : World.setRow _ _ _ = wb at hS2 ⊢
              replace RN := Lib.hid (show wb.rowIs _ _ _ _ by rw [← hwb]; exact rowIs_far RN.out (rowIs_ne RN.out K16.out (by decide)))
              replace RF := Lib.hid (show wb.rowIs _ _ _ _ by rw [← hwb]; exact rowIs_far RF.out (rowIs_ne RF.out K16.out (by decide)))
              replace K17 := Lib.hid (show Blk wb _ _ _ by rw [← hwb]; exact far_row_blk K17.out (Blk.ne_ K17.out K16.out (by decide)))
              replace K16 := Lib.hid (show Blk wb _ _ #[.int .i64 ((Tm.aftC m k st.c (Tm.inp wd j)).1 : Nat), .slice (some ⟨gN, 0, none⟩) T T, .slice (some ⟨gF, 0, none⟩) T T] by rw [← hwb]; exact set_row_blk K16.out)
              replace HSa := Lib.hid hS2
              clear hS2 hwb wa
              rename World => wa
              refine wpAnyH_ready (rs := [15]) (by kernel_rfl) (by simp) ?_
              refine AllReadyH.cons rfl (fun K hK => ?_) AllReadyH.nil
              rw [if_pos (by rfl)]
              refine wp_store_row 53 _ _ rfl kK17 #[.int .i64 (Tm.evt m st.c (Tm.inp wd j) lm).1, .int .i64 (Tm.evt m st.c (Tm.inp wd j) lm).2.1, .int .i64 (Tm.evt m st.c (Tm.inp wd j) lm).2.2] rfl rfl 53 _ K17.out (by kernel_rfl) rfl (by simp [Value.oneCell']) ?_
              refine hK.out _ _ (below_row HSa.out hgeK17 _) (fun hS2 => ?_)
              clear hK K
              change wpAnyH _ _ _ _ _ _ _ (Act.put _ none _) _
              try simp only [Act.put]
              generalize hwb : World.setRow _ _ _ = wb at hS2 ⊢
              replace RN := Lib.hid (show wb.rowIs _ _ _ _ by rw [← hwb]; exact rowIs_far RN.out (rowIs_ne RN.out K17.out (by decide)))
              replace RF := Lib.hid (show wb.rowIs _ _ _ _ by rw [← hwb]; exact rowIs_far RF.out (rowIs_ne RF.out K17.out (by decide)))
              replace K16 := Lib.hid (show Blk wb _ _ _ by rw [← hwb]; exact far_row_blk K16.out (Blk.ne_ K16.out K17.out (by decide)))
              replace K17 := Lib.hid (show Blk wb _ _ #[.int .i64 (Tm.evt m st.c (Tm.inp wd j) lm).1, .int .i64 (Tm.evt m st.c (Tm.inp wd j) lm).2.1, .int .i64 (Tm.evt m st.c (Tm.inp wd j) lm).2.2] by rw [← hwb]; exact set_row_blk K17.out)
              replace HSa := Lib.hid hS2
              clear hS2 hwb wa
              rename World => wa
              refine wpAnyH_done (by kernel_rfl) ?_ _
              go_wp2_with fail
              go_meet
              exact ⟨kK16, kK17, gN, gF, rfl, rfl, K16.out, K17.out, RN.out, RF.out, hgeK16, hgeK17, HSa.out⟩
        case rest =>
        obtain ⟨k16, k17, g1n, g2n, rfl, rfl, hk16, hk17, hr1, hr2, hge1, hge2, hbx⟩ := hcut
        rename World => wx
        have b1 := HQ.out.blk.keep hbx
        have o1 : OwnE wx w2.heap.size (.slice EE st.ev.length cE) st.ev := own_keep HQ.out.own hbx
        have O2 := Lib.hid (own_setRow (cs' := #[.int .i64 ((Tm.aftC m k st.c (Tm.inp wd j)).1 : Nat), .slice (some ⟨g1n, 0, none⟩) T T, .slice (some ⟨g2n, 0, none⟩) T T]) o1 b1 (by decide))
        have K17x := Lib.hid (far_row_blk (g' := k12) (cs' := #[.int .i64 ((Tm.aftC m k st.c (Tm.inp wd j)).1 : Nat), .slice (some ⟨g1n, 0, none⟩) T T, .slice (some ⟨g2n, 0, none⟩) T T]) hk17 (Blk.ne_ hk17 b1 (by decide)))
        have K16x := Lib.hid hk16
        have B1 := Lib.hid b1
        have R1x := Lib.hid hr1
        have R2x := Lib.hid hr2
        have HBX := Lib.hid hbx
        have hszx : w2.heap.size ≤ (wx.setRow k12 #[.int .i64 ((Tm.aftC m k st.c (Tm.inp wd j)).1 : Nat), .slice (some ⟨g1n, 0, none⟩) T T, .slice (some ⟨g2n, 0, none⟩) T T]).heap.size := by simp [World.setRow]; have := hbx.size; omega
        have hq6 : st.ev.length ≤ 1099511627776 := by omega
        clear hk16 hk17 hr1 hr2 hbx b1 o1
        go_upto_region 25 with fail
        go_upto_region 26 with (first | (refine wpList_load_row rfl 90 _ rfl k16 rfl 90 #[.int .i64 ((Tm.aftC m k st.c (Tm.inp wd j)).1 : Nat), .slice (some ⟨g1n, 0, none⟩) T T, .slice (some ⟨g2n, 0, none⟩) T T] (0, 0) _ K16x.out Try.underlying90 rfl (by kernel_rfl) ?_) | (refine wpList_store_row rfl 90 _ _ rfl k12 #[.int .i64 ((Tm.aftC m k st.c (Tm.inp wd j)).1 : Nat), .slice (some ⟨g1n, 0, none⟩) T T, .slice (some ⟨g2n, 0, none⟩) T T] rfl rfl 90 _ B1.out (by kernel_rfl) rfl (by simp [Value.oneCell']) ?_))
        generalize hws : World.setRow _ _ _ = ws
        have O3 : Hid (OwnE ws w2.heap.size (.slice EE st.ev.length cE) st.ev) := Lib.hid (by rw [← hws]; exact O2.out)
        have K17y : Hid (Blk ws k17 53 #[.int .i64 (Tm.evt m st.c (Tm.inp wd j) lm).1, .int .i64 (Tm.evt m st.c (Tm.inp wd j) lm).2.1, .int .i64 (Tm.evt m st.c (Tm.inp wd j) lm).2.2]) := Lib.hid (by rw [← hws]; exact K17x.out)
        replace hszx : w2.heap.size ≤ ws.heap.size := by rw [← hws]; exact hszx
        have HWS := Lib.hid hws
        clear hws
        go_upto_region 27 with (first | (refine wpList_load_row rfl 53 _ rfl k17 rfl 53 #[.int .i64 (Tm.evt m st.c (Tm.inp wd j) lm).1, .int .i64 (Tm.evt m st.c (Tm.inp wd j) lm).2.1, .int .i64 (Tm.evt m st.c (Tm.inp wd j) lm).2.2] (0, 0) _ K17y.out Try.underlying53 rfl (by kernel_rfl) ?_) | (at_builtin; refine appL evC_len (by decide) rfl (.tmp 108) (.tmp 110) 38 53 _ _ rfl Try.underlying38 infoE rfl (by decide) (y := (Tm.evt m st.c (Tm.inp wd j) lm)) rfl rfl rfl rfl O3.out (evC_one _) hq6 hszx ?_; intro v5 w5 hown' hgr' _ _ _))
        rw [← HWS.out] at hgr'
        have HQ5 := Lib.hid (HQ.out.next (st' := Tm.take m k st (Tm.inp wd j) lm) HBX.out hk12 hsz R1x.out R2x.out rfl hgr' hown' rfl HEX.out)
        obtain ⟨E5, n5c, rfl⟩ := own_slice hown'
        clear hown' hgr' O2 K17x K16x B1 R1x R2x HBX O3 K17y HWS hszx
        have hn5 : (st.ev ++ [(Tm.evt m st.c (Tm.inp wd j) lm)]).length = st.ev.length + 1 := by simp
        rw [hn5] at HQ5 ⊢
        clear hn5
        by_cases hmany : 10000 < st.ev.length + 1
        · have d1 : (10000 : Int) < (st.ev.length : Int) + 1 := by omega
          have HF := Lib.hid (HQ5.out.ex.many (by show 10000 < (st.ev ++ _).length; simp; omega))
          go_wp2
          go_ret2
          rw [HE.out, HF.out]
          exact ⟨⟨_, rfl, OwnE_nil _ _⟩, below_seq HBL.out HQ5.out.bel⟩
        have d1 : ¬ (10000 : Int) < (st.ev.length : Int) + 1 := by omega
        have HFEW : Hid (¬ 10000 < (Tm.take m k st (Tm.inp wd j) lm).ev.length) := Lib.hid (by show ¬ 10000 < (st.ev ++ _).length; simp; omega)
        clear e1'
        go_wp2_with fail
        go_roundw
        case rel => exact ⟨j + 1, by omega, by go_num, _, g1n, g2n, (by rw [show min (j + 1) wd.length = j + 1 by omega]; exact HQ5), Lib.hid (fun h => by omega), HFEW.out⟩
        case measure => simp [intOf] <;> omega
      obtain ⟨x, hx⟩ : ∃ x : Nat, Tm.dueF st.c st.at_ lm T = x := ⟨(Tm.dueF st.c st.at_ lm T).toNat, by omega⟩
      have HEX := Lib.hid (HQ.out.ex.wait HM.out HWD.out hfew (by rw [HLM.out]; exact hx))
      rw [hx]
      have hxT := HEX.out.1
      have hxT' : (x : Int) < (T : Int) := by omega
      clear hx hneg
      go_upto_region 18 with fail
      have c0 : wy.cell? ⟨w.heap.size, 0, none⟩ = some (.int .i64 (k : Nat)) := by rw [← HM.out.I]; exact (HC0.out wy HQ.out.bel).cell 0
      have q2 : wy.cell? ⟨k12, 2, none⟩ = some (.slice (some ⟨g2, 0, none⟩) T T) := HQ.out.blk.cell 2
      have fx : wy.cell? ⟨g2, x, none⟩ = some (.int .i64 (st.at_ x)) := HQ.out.r2.cell hxT
      go_cut [16, 17] (fun p q wx => R18 T wy (Tm.aftC m k st.c (k + x)) (newAt m st.c st.at_ (k + x) (st.at_ x)) (Tm.evt m st.c (k + x) (st.at_ x)) p q wx)
      case first =>
        refine wp_region_held_drew (S := fun wx => Below wy.heap.size wy wx) (by kernel_rfl) ((Below.refl _ _).drew) (fun hS => ?_)
        refine takeH (i := 0) (d := some 69) (v := .agg #[.int .i64 m.I, .int .i64 m.T, .int .i64 m.S, .slice A m.nx.length c, .slice B m.out.length d, .slice C m.set.length e]) rfl rfl (by kernel_rfl) (by kernel_rfl) (by kernel_rfl) (fun _ _ _ h => h) (yieldsIf_load_any (by rfl) 25 _ rfl ⟨w.heap.size, 0, none⟩ rfl [.int .i64 m.I, .int .i64 m.T, .int .i64 m.S, .slice A m.nx.length c, .slice B m.out.length d, .slice C m.set.length e] _ (fun wx hSx => ((HC0.out wx (HQ.out.bel.trans (Below.mono hSx hsz))).part 0 _ rfl)) Try.underlying25 rfl (by kernel_rfl)) hS ?_
        simp only [Act.put, List.setIfInBounds_toArray, List.set_cons_zero, List.set_cons_succ]
        refine takeH (i := 1) (d := some 70) (v := .agg #[.int .i64 (st.c.1 : Nat), .slice (some ⟨g1, 0, none⟩) T T, .slice (some ⟨g2, 0, none⟩) T T]) rfl rfl (by kernel_rfl) (by kernel_rfl) (by kernel_rfl) (fun _ _ _ h => h) (yieldsIf_load_any (by rfl) 90 _ rfl ⟨k12, 0, none⟩ rfl [.int .i64 (st.c.1 : Nat), .slice (some ⟨g1, 0, none⟩) T T, .slice (some ⟨g2, 0, none⟩) T T] _ (fun wx hSx => ((HQ.out.blk.keep hSx).part 0 _ rfl)) Try.underlying90 rfl (by kernel_rfl)) hS ?_
        simp only [Act.put, List.setIfInBounds_toArray, List.set_cons_zero, List.set_cons_succ]
        refine takeH (i := 2) (d := some 71) (v := ?_) rfl rfl (by kernel_rfl) (by kernel_rfl) (by kernel_rfl) (fun _ _ _ h => h) (Or.inl ⟨by rfl, ?_⟩) hS ?_
        rotate_left
        · intro wx hSx; clear hSx; first | (go_simp; done) | (go_simp; with_reducible rfl)
        simp only [Act.put, List.setIfInBounds_toArray, List.set_cons_zero, List.set_cons_succ]
        refine takeH (i := 3) (d := some 72) (v := ?_) rfl rfl (by kernel_rfl) (by kernel_rfl) (by kernel_rfl) (fun _ _ _ h => h) (Or.inl ⟨by rfl, ?_⟩) hS ?_
        rotate_left
        · intro wx hSx; have hSy : Below wy.heap.size wy wx := hSx; have e0 := keep_cell hSy c0; have e1 := keep_cell hSy q2; have e2 := keep_cell hSy fx; clear hSy hSx; first | (go_simp; done) | (go_simp; with_reducible rfl)
        simp only [Act.put, List.setIfInBounds_toArray, List.set_cons_zero, List.set_cons_succ]
        refine takeH (i := 4) (d := some 73) (v := ?_) rfl rfl (by kernel_rfl) (by kernel_rfl) (by kernel_rfl) (fun _ _ _ h => h) (Or.inl ⟨by rfl, ?_⟩) hS ?_
        rotate_left
        · intro wx hSx; clear hSx; first | (go_simp; done) | (go_simp; with_reducible rfl)
        simp only [Act.put, List.setIfInBounds_toArray, List.set_cons_zero, List.set_cons_succ]
        refine takeH (i := 5) (d := some 74) (v := ?_) rfl rfl (by kernel_rfl) (by kernel_rfl) (by kernel_rfl) (fun _ _ _ h => h) (Or.inl ⟨by rfl, ?_⟩) hS ?_
        rotate_left
        · intro wx hSx; clear hSx; have hw1 := IntWalk.i64_in ((k : Int) + (x : Int)) (by omega); first | (go_simp; done) | (go_simp; with_reducible rfl)
        simp only [Act.put, List.setIfInBounds_toArray, List.set_cons_zero, List.set_cons_succ]
        refine takeH (i := 6) (d := some 75) (v := ?_) rfl rfl (by kernel_rfl) (by kernel_rfl) (by kernel_rfl) (fun _ _ _ h => h) (Or.inl ⟨by rfl, ?_⟩) hS ?_
        rotate_left
        · intro wx hSx; clear hSx; first | (go_simp; done) | (go_simp; with_reducible rfl)
        simp only [Act.put, List.setIfInBounds_toArray, List.set_cons_zero, List.set_cons_succ]
        refine takeH (i := 7) (d := some 76) (v := ?_) rfl rfl (by kernel_rfl) (by kernel_rfl) (by kernel_rfl) (fun _ _ _ h => h) (Or.inl ⟨by rfl, ?_⟩) hS ?_
        rotate_left
        · intro wx hSx; have hSy : Below wy.heap.size wy wx := hSx; have e0 := keep_cell hSy c0; have e1 := keep_cell hSy q2; have e2 := keep_cell hSy fx; clear hSy hSx; first | (go_simp; done) | (go_simp; with_reducible rfl)
        simp only [Act.put, List.setIfInBounds_toArray, List.set_cons_zero, List.set_cons_succ]
        refine takeH (i := 8) (d := some 77) (v := ?_) rfl rfl (by kernel_rfl) (by kernel_rfl) (by kernel_rfl) (fun _ _ _ h => h) (Or.inl ⟨by rfl, ?_⟩) hS ?_
        rotate_left
        · intro wx hSx; clear hSx; first | (go_simp; done) | (go_simp; with_reducible rfl)
        simp only [Act.put, List.setIfInBounds_toArray, List.set_cons_zero, List.set_cons_succ]
        refine takeH (i := 9) (d := some 78) (v := ?_) rfl rfl (by kernel_rfl) (by kernel_rfl) (by kernel_rfl) (fun _ _ _ h => h) (Or.inl ⟨by rfl, ?_⟩) hS ?_
        rotate_left
        · intro wx hSx; clear hSx; first | (go_simp; done) | (go_simp; with_reducible rfl)
        simp only [Act.put, List.setIfInBounds_toArray, List.set_cons_zero, List.set_cons_succ]
        refine takeH (i := 10) (d := some 79) (v := ?_) rfl rfl (by kernel_rfl) (by kernel_rfl) (by kernel_rfl) (fun _ _ _ h => h) (Or.inl ⟨by rfl, ?_⟩) hS ?_
        rotate_left
        · intro wx hSx; have hSy : Below wy.heap.size wy wx := hSx; have e0 := keep_cell hSy c0; have e1 := keep_cell hSy q2; have e2 := keep_cell hSy fx; clear hSy hSx; first | (go_simp; done) | (go_simp; with_reducible rfl)
        simp only [Act.put, List.setIfInBounds_toArray, List.set_cons_zero, List.set_cons_succ]
        generalize hwa : World.drew _ = wa at hS ⊢
        clear hwa
        have HSa := Lib.hid hS
        clear hS
        refine wpAnyH_ready (rs := [11, 15, 16]) (by kernel_rfl) (by simp) ?_
        refine AllReadyH.cons rfl (fun K hK => ?_) (AllReadyH.cons rfl (fun K hK => ?_) (AllReadyH.cons rfl (fun K hK => ?_) AllReadyH.nil))
        · skip
          rw [if_pos (by rfl)]
          try go_simp
          have HQa := Lib.hid (HQ.out.on HSa.out hsz)
          refine (taken_r m k T S A B C c d e T T g1 g2 st.c st.at_ (st.at_ x) (k + x) wa HM.out HQ.out.ex.ok.c (by omega) (HT2.out.keep HQa.out.bel) HQa.out.r1 HQa.out.r2 (HQ.out.ex.ok.t0 x) (by have := HEX.out.2.2.1; rw [HLM.out] at this; have := HL.out.2; omega)).mono ?_
          rintro r wv ⟨⟨gN, gF, rfl, hgN, hgF, -, -⟩, hb⟩
          refine hK.out _ _ (below_seq HSa.out hb) (fun hS2 => ?_)
          clear hK K HQa
          try simp only [Act.put, List.setIfInBounds_toArray, List.set_cons_zero, List.set_cons_succ]
          have RN := Lib.hid hgN
          have RF := Lib.hid hgF
          replace HSa := Lib.hid hS2
          clear hS2 hb hgN hgF wa
          rename World => wa
          refine takeH (i := 12) (d := some 68) (v := ?_) rfl rfl (by kernel_rfl) (by kernel_rfl) (by kernel_rfl) (fun _ _ _ h => h) (Or.inl ⟨by rfl, ?_⟩) HSa.out ?_
          rotate_left
          · intro wx hSx; clear hSx; first | (go_simp; done) | (go_simp; with_reducible rfl)
          simp only [Act.put, List.setIfInBounds_toArray, List.set_cons_zero, List.set_cons_succ]
          refine takeH (i := 13) (d := some 81) (v := ?_) rfl rfl (by kernel_rfl) (by kernel_rfl) (by kernel_rfl) (fun _ _ _ h => h) (Or.inl ⟨by rfl, ?_⟩) HSa.out ?_
          rotate_left
          · intro wx hSx; clear hSx; first | (go_simp; done) | (go_simp; with_reducible rfl)
          simp only [Act.put, List.setIfInBounds_toArray, List.set_cons_zero, List.set_cons_succ]
          refine takeH (i := 14) (d := some 82) (v := ?_) rfl rfl (by kernel_rfl) (by kernel_rfl) (by kernel_rfl) (fun _ _ _ h => h) (Or.inl ⟨by rfl, ?_⟩) HSa.out ?_
          rotate_left
          · intro wx hSx; clear hSx; first | (go_simp; done) | (go_simp; with_reducible rfl)
          simp only [Act.put, List.setIfInBounds_toArray, List.set_cons_zero, List.set_cons_succ]
          refine wpAnyH_ready (rs := [15, 16]) (by kernel_rfl) (by simp) ?_
          refine AllReadyH.cons rfl (fun K hK => ?_) (AllReadyH.cons rfl (fun K hK => ?_) AllReadyH.nil)
          · skip
            rw [if_pos (by rfl)]
            go_simp
            refine hK.out _ _ (Below.alloc HSa.out HSa.out.size _) (fun hS2 => ?_)
            clear hK K
            try simp only [Act.put, List.setIfInBounds_toArray, List.set_cons_zero, List.set_cons_succ]
            generalize hwb : World.alloc _ _ = wb at hS2 ⊢
            have hal : Below wa.heap.size wa wb := by rw [← hwb]; exact (Below.refl _ _).alloc (Nat.le_refl _) _
            have K16 : Hid (Blk wb wa.heap.size 90 #[.int .i64 0, .slice none 0 0, .slice none 0 0]) := Lib.hid (by rw [← hwb]; exact Blk.new _ _ _)
            have hgeK16 : wy.heap.size ≤ wa.heap.size := HSa.out.size
            replace RN := Lib.hid (rowIs_keep RN.out hal)
            replace RF := Lib.hid (rowIs_keep RF.out hal)
            replace HSa := Lib.hid hS2
            generalize wa.heap.size = kK16 at *
            clear hS2 hwb hal
            rename World => wa
            refine wpAnyH_ready (rs := [16]) (by kernel_rfl) (by simp) ?_
            refine AllReadyH.cons rfl (fun K hK => ?_) AllReadyH.nil
            rw [if_pos (by rfl)]
            go_simp
            refine hK.out _ _ (Below.alloc HSa.out HSa.out.size _) (fun hS2 => ?_)
            clear hK K
            try simp only [Act.put, List.setIfInBounds_toArray, List.set_cons_zero, List.set_cons_succ]
            generalize hwb : World.alloc _ _ = wb at hS2 ⊢
            have hal : Below wa.heap.size wa wb := by rw [← hwb]; exact (Below.refl _ _).alloc (Nat.le_refl _) _
            have K17 : Hid (Blk wb wa.heap.size 53 #[.int .i64 0, .int .i64 0, .int .i64 0]) := Lib.hid (by rw [← hwb]; exact Blk.new _ _ _)
            have hgeK17 : wy.heap.size ≤ wa.heap.size := HSa.out.size
            replace RN := Lib.hid (rowIs_keep RN.out hal)
            replace RF := Lib.hid (rowIs_keep RF.out hal)
            replace K16 := Lib.hid (K16.out.keep hal)
            replace HSa := Lib.hid hS2
            generalize wa.heap.size = kK17 at *
            clear hS2 hwb hal
            rename World => wa
            refine wpAnyH_ready (rs := [17]) (by kernel_rfl) (by simp) ?_
            refine AllReadyH.cons rfl (fun K hK => ?_) AllReadyH.nil
            rw [if_pos (by rfl)]
            refine wp_store_row 90 _ _ rfl kK16 #[.int .i64 ((Tm.aftC m k st.c (k + x)).1 : Nat), .slice (some ⟨gN, 0, none⟩) T T, .slice (some ⟨gF, 0, none⟩) T T] rfl rfl 90 _ K16.out (by kernel_rfl) rfl (by simp [Value.oneCell']) ?_
            refine hK.out _ _ (below_row HSa.out hgeK16 _) (fun hS2 => ?_)
            clear hK K
            change wpAnyH _ _ _ _ _ _ _ (Act.put _ none _) _
            try simp only [Act.put]
            generalize hwb : World.setRow _ _ _ = wb at hS2 ⊢
            replace RN := Lib.hid (show wb.rowIs _ _ _ _ by rw [← hwb]; exact rowIs_far RN.out (rowIs_ne RN.out K16.out (by decide)))
            replace RF := Lib.hid (show wb.rowIs _ _ _ _ by rw [← hwb]; exact rowIs_far RF.out (rowIs_ne RF.out K16.out (by decide)))
            replace K17 := Lib.hid (show Blk wb _ _ _ by rw [← hwb]; exact far_row_blk K17.out (Blk.ne_ K17.out K16.out (by decide)))
            replace K16 := Lib.hid (show Blk wb _ _ #[.int .i64 ((Tm.aftC m k st.c (k + x)).1 : Nat), .slice (some ⟨gN, 0, none⟩) T T, .slice (some ⟨gF, 0, none⟩) T T] by rw [← hwb]; exact set_row_blk K16.out)
            replace HSa := Lib.hid hS2
            clear hS2 hwb wa
            rename World => wa
            refine wpAnyH_ready (rs := [18]) (by kernel_rfl) (by simp) ?_
            refine AllReadyH.cons rfl (fun K hK => ?_) AllReadyH.nil
            rw [if_pos (by rfl)]
            refine wp_store_row 53 _ _ rfl kK17 #[.int .i64 (Tm.evt m st.c (k + x) (st.at_ x)).1, .int .i64 (Tm.evt m st.c (k + x) (st.at_ x)).2.1, .int .i64 (Tm.evt m st.c (k + x) (st.at_ x)).2.2] rfl rfl 53 _ K17.out (by kernel_rfl) rfl (by simp [Value.oneCell']) ?_
            refine hK.out _ _ (below_row HSa.out hgeK17 _) (fun hS2 => ?_)
            clear hK K
            change wpAnyH _ _ _ _ _ _ _ (Act.put _ none _) _
            try simp only [Act.put]
            generalize hwb : World.setRow _ _ _ = wb at hS2 ⊢
            replace RN := Lib.hid (show wb.rowIs _ _ _ _ by rw [← hwb]; exact rowIs_far RN.out (rowIs_ne RN.out K17.out (by decide)))
            replace RF := Lib.hid (show wb.rowIs _ _ _ _ by rw [← hwb]; exact rowIs_far RF.out (rowIs_ne RF.out K17.out (by decide)))
            replace K16 := Lib.hid (show Blk wb _ _ _ by rw [← hwb]; exact far_row_blk K16.out (Blk.ne_ K16.out K17.out (by decide)))
            replace K17 := Lib.hid (show Blk wb _ _ #[.int .i64 (Tm.evt m st.c (k + x) (st.at_ x)).1, .int .i64 (Tm.evt m st.c (k + x) (st.at_ x)).2.1, .int .i64 (Tm.evt m st.c (k + x) (st.at_ x)).2.2] by rw [← hwb]; exact set_row_blk K17.out)
            replace HSa := Lib.hid hS2
            clear hS2 hwb wa
            rename World => wa
            refine wpAnyH_done (by kernel_rfl) ?_ _
            go_wp2_with fail
            go_meet
            exact ⟨kK16, kK17, gN, gF, rfl, rfl, K16.out, K17.out, RN.out, RF.out, hgeK16, hgeK17, HSa.out⟩
          · skip
            rw [if_pos (by rfl)]
            go_simp
            refine hK.out _ _ (Below.alloc HSa.out HSa.out.size _) (fun hS2 => ?_)
            clear hK K
            try simp only [Act.put, List.setIfInBounds_toArray, List.set_cons_zero, List.set_cons_succ]
            generalize hwb : World.alloc _ _ = wb at hS2 ⊢
            have hal : Below wa.heap.size wa wb := by rw [← hwb]; exact (Below.refl _ _).alloc (Nat.le_refl _) _
            have K17 : Hid (Blk wb wa.heap.size 53 #[.int .i64 0, .int .i64 0, .int .i64 0]) := Lib.hid (by rw [← hwb]; exact Blk.new _ _ _)
            have hgeK17 : wy.heap.size ≤ wa.heap.size := HSa.out.size
            replace RN := Lib.hid (rowIs_keep RN.out hal)
            replace RF := Lib.hid (rowIs_keep RF.out hal)
            replace HSa := Lib.hid hS2
            generalize wa.heap.size = kK17 at *
            clear hS2 hwb hal
            rename World => wa
            refine wpAnyH_ready (rs := [15]) (by kernel_rfl) (by simp) ?_
            refine AllReadyH.cons rfl (fun K hK => ?_) AllReadyH.nil
            rw [if_pos (by rfl)]
            go_simp
            refine hK.out _ _ (Below.alloc HSa.out HSa.out.size _) (fun hS2 => ?_)
            clear hK K
            try simp only [Act.put, List.setIfInBounds_toArray, List.set_cons_zero, List.set_cons_succ]
            generalize hwb : World.alloc _ _ = wb at hS2 ⊢
            have hal : Below wa.heap.size wa wb := by rw [← hwb]; exact (Below.refl _ _).alloc (Nat.le_refl _) _
            have K16 : Hid (Blk wb wa.heap.size 90 #[.int .i64 0, .slice none 0 0, .slice none 0 0]) := Lib.hid (by rw [← hwb]; exact Blk.new _ _ _)
            have hgeK16 : wy.heap.size ≤ wa.heap.size := HSa.out.size
            replace RN := Lib.hid (rowIs_keep RN.out hal)
            replace RF := Lib.hid (rowIs_keep RF.out hal)
            replace K17 := Lib.hid (K17.out.keep hal)
            replace HSa := Lib.hid hS2
            generalize wa.heap.size = kK16 at *
            clear hS2 hwb hal
            rename World => wa
            refine wpAnyH_ready (rs := [17]) (by kernel_rfl) (by simp) ?_
            refine AllReadyH.cons rfl (fun K hK => ?_) AllReadyH.nil
            rw [if_pos (by rfl)]
            refine wp_store_row 90 _ _ rfl kK16 #[.int .i64 ((Tm.aftC m k st.c (k + x)).1 : Nat), .slice (some ⟨gN, 0, none⟩) T T, .slice (some ⟨gF, 0, none⟩) T T] rfl rfl 90 _ K16.out (by kernel_rfl) rfl (by simp [Value.oneCell']) ?_
            refine hK.out _ _ (below_row HSa.out hgeK16 _) (fun hS2 => ?_)
            clear hK K
            change wpAnyH _ _ _ _ _ _ _ (Act.put _ none _) _
            try simp only [Act.put]
            generalize hwb : World.setRow _ _ _ = wb at hS2 ⊢
            replace RN := Lib.hid (show wb.rowIs _ _ _ _ by rw [← hwb]; exact rowIs_far RN.out (rowIs_ne RN.out K16.out (by decide)))
            replace RF := Lib.hid (show wb.rowIs _ _ _ _ by rw [← hwb]; exact rowIs_far RF.out (rowIs_ne RF.out K16.out (by decide)))
            replace K17 := Lib.hid (show Blk wb _ _ _ by rw [← hwb]; exact far_row_blk K17.out (Blk.ne_ K17.out K16.out (by decide)))
            replace K16 := Lib.hid (show Blk wb _ _ #[.int .i64 ((Tm.aftC m k st.c (k + x)).1 : Nat), .slice (some ⟨gN, 0, none⟩) T T, .slice (some ⟨gF, 0, none⟩) T T] by rw [← hwb]; exact set_row_blk K16.out)
            replace HSa := Lib.hid hS2
            clear hS2 hwb wa
            rename World => wa
            refine wpAnyH_ready (rs := [18]) (by kernel_rfl) (by simp) ?_
            refine AllReadyH.cons rfl (fun K hK => ?_) AllReadyH.nil
            rw [if_pos (by rfl)]
            refine wp_store_row 53 _ _ rfl kK17 #[.int .i64 (Tm.evt m st.c (k + x) (st.at_ x)).1, .int .i64 (Tm.evt m st.c (k + x) (st.at_ x)).2.1, .int .i64 (Tm.evt m st.c (k + x) (st.at_ x)).2.2] rfl rfl 53 _ K17.out (by kernel_rfl) rfl (by simp [Value.oneCell']) ?_
            refine hK.out _ _ (below_row HSa.out hgeK17 _) (fun hS2 => ?_)
            clear hK K
            change wpAnyH _ _ _ _ _ _ _ (Act.put _ none _) _
            try simp only [Act.put]
            generalize hwb : World.setRow _ _ _ = wb at hS2 ⊢
            replace RN := Lib.hid (show wb.rowIs _ _ _ _ by rw [← hwb]; exact rowIs_far RN.out (rowIs_ne RN.out K17.out (by decide)))
            replace RF := Lib.hid (show wb.rowIs _ _ _ _ by rw [← hwb]; exact rowIs_far RF.out (rowIs_ne RF.out K17.out (by decide)))
            replace K16 := Lib.hid (show Blk wb _ _ _ by rw [← hwb]; exact far_row_blk K16.out (Blk.ne_ K16.out K17.out (by decide)))
            replace K17 := Lib.hid (show Blk wb _ _ #[.int .i64 (Tm.evt m st.c (k + x) (st.at_ x)).1, .int .i64 (Tm.evt m st.c (k + x) (st.at_ x)).2.1, .int .i64 (Tm.evt m st.c (k + x) (st.at_ x)).2.2] by rw [← hwb]; exact set_row_blk K17.out)
            replace HSa := Lib.hid hS2
            clear hS2 hwb wa
            rename World => wa
            refine wpAnyH_done (by kernel_rfl) ?_ _
            go_wp2_with fail
            go_meet
            exact ⟨kK16, kK17, gN, gF, rfl, rfl, K16.out, K17.out, RN.out, RF.out, hgeK16, hgeK17, HSa.out⟩
        · skip
          rw [if_pos (by rfl)]
          go_simp
          refine hK.out _ _ (Below.alloc HSa.out HSa.out.size _) (fun hS2 => ?_)
          clear hK K
          try simp only [Act.put, List.setIfInBounds_toArray, List.set_cons_zero, List.set_cons_succ]
          generalize hwb : World.alloc _ _ = wb at hS2 ⊢
          have hal : Below wa.heap.size wa wb := by rw [← hwb]; exact (Below.refl _ _).alloc (Nat.le_refl _) _
          have K16 : Hid (Blk wb wa.heap.size 90 #[.int .i64 0, .slice none 0 0, .slice none 0 0]) := Lib.hid (by rw [← hwb]; exact Blk.new _ _ _)
          have hgeK16 : wy.heap.size ≤ wa.heap.size := HSa.out.size
          replace HSa := Lib.hid hS2
          generalize wa.heap.size = kK16 at *
          clear hS2 hwb hal
          rename World => wa
          refine wpAnyH_ready (rs := [11, 16]) (by kernel_rfl) (by simp) ?_
          refine AllReadyH.cons rfl (fun K hK => ?_) (AllReadyH.cons rfl (fun K hK => ?_) AllReadyH.nil)
          · skip
            rw [if_pos (by rfl)]
            try go_simp
            have HQa := Lib.hid (HQ.out.on HSa.out hsz)
            refine (taken_r m k T S A B C c d e T T g1 g2 st.c st.at_ (st.at_ x) (k + x) wa HM.out HQ.out.ex.ok.c (by omega) (HT2.out.keep HQa.out.bel) HQa.out.r1 HQa.out.r2 (HQ.out.ex.ok.t0 x) (by have := HEX.out.2.2.1; rw [HLM.out] at this; have := HL.out.2; omega)).mono ?_
            rintro r wv ⟨⟨gN, gF, rfl, hgN, hgF, -, -⟩, hb⟩
            refine hK.out _ _ (below_seq HSa.out hb) (fun hS2 => ?_)
            clear hK K HQa
            try simp only [Act.put, List.setIfInBounds_toArray, List.set_cons_zero, List.set_cons_succ]
            have RN := Lib.hid hgN
            have RF := Lib.hid hgF
            replace K16 := Lib.hid (K16.out.keep hb)
            replace HSa := Lib.hid hS2
            clear hS2 hb hgN hgF wa
            rename World => wa
            refine takeH (i := 12) (d := some 68) (v := ?_) rfl rfl (by kernel_rfl) (by kernel_rfl) (by kernel_rfl) (fun _ _ _ h => h) (Or.inl ⟨by rfl, ?_⟩) HSa.out ?_
            rotate_left
            · intro wx hSx; clear hSx; first | (go_simp; done) | (go_simp; with_reducible rfl)
            simp only [Act.put, List.setIfInBounds_toArray, List.set_cons_zero, List.set_cons_succ]
            refine takeH (i := 13) (d := some 81) (v := ?_) rfl rfl (by kernel_rfl) (by kernel_rfl) (by kernel_rfl) (fun _ _ _ h => h) (Or.inl ⟨by rfl, ?_⟩) HSa.out ?_
            rotate_left
            · intro wx hSx; clear hSx; first | (go_simp; done) | (go_simp; with_reducible rfl)
            simp only [Act.put, List.setIfInBounds_toArray, List.set_cons_zero, List.set_cons_succ]
            refine takeH (i := 14) (d := some 82) (v := ?_) rfl rfl (by kernel_rfl) (by kernel_rfl) (by kernel_rfl) (fun _ _ _ h => h) (Or.inl ⟨by rfl, ?_⟩) HSa.out ?_
            rotate_left
            · intro wx hSx; clear hSx; first | (go_simp; done) | (go_simp; with_reducible rfl)
            simp only [Act.put, List.setIfInBounds_toArray, List.set_cons_zero, List.set_cons_succ]
            refine wpAnyH_ready (rs := [16]) (by kernel_rfl) (by simp) ?_
            refine AllReadyH.cons rfl (fun K hK => ?_) AllReadyH.nil
            rw [if_pos (by rfl)]
            go_simp
            refine hK.out _ _ (Below.alloc HSa.out HSa.out.size _) (fun hS2 => ?_)
            clear hK K
            try simp only [Act.put, List.setIfInBounds_toArray, List.set_cons_zero, List.set_cons_succ]
            generalize hwb : World.alloc _ _ = wb at hS2 ⊢
            have hal : Below wa.heap.size wa wb := by rw [← hwb]; exact (Below.refl _ _).alloc (Nat.le_refl _) _
            have K17 : Hid (Blk wb wa.heap.size 53 #[.int .i64 0, .int .i64 0, .int .i64 0]) := Lib.hid (by rw [← hwb]; exact Blk.new _ _ _)
            have hgeK17 : wy.heap.size ≤ wa.heap.size := HSa.out.size
            replace RN := Lib.hid (rowIs_keep RN.out hal)
            replace RF := Lib.hid (rowIs_keep RF.out hal)
            replace K16 := Lib.hid (K16.out.keep hal)
            replace HSa := Lib.hid hS2
            generalize wa.heap.size = kK17 at *
            clear hS2 hwb hal
            rename World => wa
            refine wpAnyH_ready (rs := [17]) (by kernel_rfl) (by simp) ?_
            refine AllReadyH.cons rfl (fun K hK => ?_) AllReadyH.nil
            rw [if_pos (by rfl)]
            refine wp_store_row 90 _ _ rfl kK16 #[.int .i64 ((Tm.aftC m k st.c (k + x)).1 : Nat), .slice (some ⟨gN, 0, none⟩) T T, .slice (some ⟨gF, 0, none⟩) T T] rfl rfl 90 _ K16.out (by kernel_rfl) rfl (by simp [Value.oneCell']) ?_
            refine hK.out _ _ (below_row HSa.out hgeK16 _) (fun hS2 => ?_)
            clear hK K
            change wpAnyH _ _ _ _ _ _ _ (Act.put _ none _) _
            try simp only [Act.put]
            generalize hwb : World.setRow _ _ _ = wb at hS2 ⊢
            replace RN := Lib.hid (show wb.rowIs _ _ _ _ by rw [← hwb]; exact rowIs_far RN.out (rowIs_ne RN.out K16.out (by decide)))
            replace RF := Lib.hid (show wb.rowIs _ _ _ _ by rw [← hwb]; exact rowIs_far RF.out (rowIs_ne RF.out K16.out (by decide)))
            replace K17 := Lib.hid (show Blk wb _ _ _ by rw [← hwb]; exact far_row_blk K17.out (Blk.ne_ K17.out K16.out (by decide)))
            replace K16 := Lib.hid (show Blk wb _ _ #[.int .i64 ((Tm.aftC m k st.c (k + x)).1 : Nat), .slice (some ⟨gN, 0, none⟩) T T, .slice (some ⟨gF, 0, none⟩) T T] by rw [← hwb]; exact set_row_blk K16.out)
            replace HSa := Lib.hid hS2
            clear hS2 hwb wa
            rename World => wa
            refine wpAnyH_ready (rs := [18]) (by kernel_rfl) (by simp) ?_
            refine AllReadyH.cons rfl (fun K hK => ?_) AllReadyH.nil
            rw [if_pos (by rfl)]
            refine wp_store_row 53 _ _ rfl kK17 #[.int .i64 (Tm.evt m st.c (k + x) (st.at_ x)).1, .int .i64 (Tm.evt m st.c (k + x) (st.at_ x)).2.1, .int .i64 (Tm.evt m st.c (k + x) (st.at_ x)).2.2] rfl rfl 53 _ K17.out (by kernel_rfl) rfl (by simp [Value.oneCell']) ?_
            refine hK.out _ _ (below_row HSa.out hgeK17 _) (fun hS2 => ?_)
            clear hK K
            change wpAnyH _ _ _ _ _ _ _ (Act.put _ none _) _
            try simp only [Act.put]
            generalize hwb : World.setRow _ _ _ = wb at hS2 ⊢
            replace RN := Lib.hid (show wb.rowIs _ _ _ _ by rw [← hwb]; exact rowIs_far RN.out (rowIs_ne RN.out K17.out (by decide)))
            replace RF := Lib.hid (show wb.rowIs _ _ _ _ by rw [← hwb]; exact rowIs_far RF.out (rowIs_ne RF.out K17.out (by decide)))
            replace K16 := Lib.hid (show Blk wb _ _ _ by rw [← hwb]; exact far_row_blk K16.out (Blk.ne_ K16.out K17.out (by decide)))
            replace K17 := Lib.hid (show Blk wb _ _ #[.int .i64 (Tm.evt m st.c (k + x) (st.at_ x)).1, .int .i64 (Tm.evt m st.c (k + x) (st.at_ x)).2.1, .int .i64 (Tm.evt m st.c (k + x) (st.at_ x)).2.2] by rw [← hwb]; exact set_row_blk K17.out)
            replace HSa := Lib.hid hS2
            clear hS2 hwb wa
            rename World => wa
            refine wpAnyH_done (by kernel_rfl) ?_ _
            go_wp2_with fail
            go_meet
            exact ⟨kK16, kK17, gN, gF, rfl, rfl, K16.out, K17.out, RN.out, RF.out, hgeK16, hgeK17, HSa.out⟩
          · skip
            rw [if_pos (by rfl)]
            go_simp
            refine hK.out _ _ (Below.alloc HSa.out HSa.out.size _) (fun hS2 => ?_)
            clear hK K
            try simp only [Act.put, List.setIfInBounds_toArray, List.set_cons_zero, List.set_cons_succ]
            generalize hwb : World.alloc _ _ = wb at hS2 ⊢
            have hal : Below wa.heap.size wa wb := by rw [← hwb]; exact (Below.refl _ _).alloc (Nat.le_refl _) _
            have K17 : Hid (Blk wb wa.heap.size 53 #[.int .i64 0, .int .i64 0, .int .i64 0]) := Lib.hid (by rw [← hwb]; exact Blk.new _ _ _)
            have hgeK17 : wy.heap.size ≤ wa.heap.size := HSa.out.size
            replace K16 := Lib.hid (K16.out.keep hal)
            replace HSa := Lib.hid hS2
            generalize wa.heap.size = kK17 at *
            clear hS2 hwb hal
            rename World => wa
            refine wpAnyH_ready (rs := [11]) (by kernel_rfl) (by simp) ?_
            refine AllReadyH.cons rfl (fun K hK => ?_) AllReadyH.nil
            rw [if_pos (by rfl)]
            try go_simp
            have HQa := Lib.hid (HQ.out.on HSa.out hsz)
            refine (taken_r m k T S A B C c d e T T g1 g2 st.c st.at_ (st.at_ x) (k + x) wa HM.out HQ.out.ex.ok.c (by omega) (HT2.out.keep HQa.out.bel) HQa.out.r1 HQa.out.r2 (HQ.out.ex.ok.t0 x) (by have := HEX.out.2.2.1; rw [HLM.out] at this; have := HL.out.2; omega)).mono ?_
            rintro r wv ⟨⟨gN, gF, rfl, hgN, hgF, -, -⟩, hb⟩
            refine hK.out _ _ (below_seq HSa.out hb) (fun hS2 => ?_)
            clear hK K HQa
            try simp only [Act.put, List.setIfInBounds_toArray, List.set_cons_zero, List.set_cons_succ]
            have RN := Lib.hid hgN
            have RF := Lib.hid hgF
            replace K16 := Lib.hid (K16.out.keep hb)
            replace K17 := Lib.hid (K17.out.keep hb)
            replace HSa := Lib.hid hS2
            clear hS2 hb hgN hgF wa
            rename World => wa
            refine takeH (i := 12) (d := some 68) (v := ?_) rfl rfl (by kernel_rfl) (by kernel_rfl) (by kernel_rfl) (fun _ _ _ h => h) (Or.inl ⟨by rfl, ?_⟩) HSa.out ?_
            rotate_left
            · intro wx hSx; clear hSx; first | (go_simp; done) | (go_simp; with_reducible rfl)
            simp only [Act.put, List.setIfInBounds_toArray, List.set_cons_zero, List.set_cons_succ]
            refine takeH (i := 13) (d := some 81) (v := ?_) rfl rfl (by kernel_rfl) (by kernel_rfl) (by kernel_rfl) (fun _ _ _ h => h) (Or.inl ⟨by rfl, ?_⟩) HSa.out ?_
            rotate_left
            · intro wx hSx; clear hSx; first | (go_simp; done) | (go_simp; with_reducible rfl)
            simp only [Act.put, List.setIfInBounds_toArray, List.set_cons_zero, List.set_cons_succ]
            refine takeH (i := 14) (d := some 82) (v := ?_) rfl rfl (by kernel_rfl) (by kernel_rfl) (by kernel_rfl) (fun _ _ _ h => h) (Or.inl ⟨by rfl, ?_⟩) HSa.out ?_
            rotate_left
            · intro wx hSx; clear hSx; first | (go_simp; done) | (go_simp; with_reducible rfl)
            simp only [Act.put, List.setIfInBounds_toArray, List.set_cons_zero, List.set_cons_succ]
            refine wpAnyH_ready (rs := [17]) (by kernel_rfl) (by simp) ?_
            refine AllReadyH.cons rfl (fun K hK => ?_) AllReadyH.nil
            rw [if_pos (by rfl)]
            refine wp_store_row 90 _ _ rfl kK16 #[.int .i64 ((Tm.aftC m k st.c (k + x)).1 : Nat), .slice (some ⟨gN, 0, none⟩) T T, .slice (some ⟨gF, 0, none⟩) T T] rfl rfl 90 _ K16.out (by kernel_rfl) rfl (by simp [Value.oneCell']) ?_
            refine hK.out _ _ (below_row HSa.out hgeK16 _) (fun hS2 => ?_)
            clear hK K
            change wpAnyH _ _ _ _ _ _ _ (Act.put _ none _) _
            try simp only [Act.put]
            generalize hwb : World.setRow _ _ _ = wb at hS2 ⊢
            replace RN := Lib.hid (show wb.rowIs _ _ _ _ by rw [← hwb]; exact rowIs_far RN.out (rowIs_ne RN.out K16.out (by decide)))
            replace RF := Lib.hid (show wb.rowIs _ _ _ _ by rw [← hwb]; exact rowIs_far RF.out (rowIs_ne RF.out K16.out (by decide)))
            replace K17 := Lib.hid (show Blk wb _ _ _ by rw [← hwb]; exact far_row_blk K17.out (Blk.ne_ K17.out K16.out (by decide)))
            replace K16 := Lib.hid (show Blk wb _ _ #[.int .i64 ((Tm.aftC m k st.c (k + x)).1 : Nat), .slice (some ⟨gN, 0, none⟩) T T, .slice (some ⟨gF, 0, none⟩) T T] by rw [← hwb]; exact set_row_blk K16.out)
            replace HSa := Lib.hid hS2
            clear hS2 hwb wa
            rename World => wa
            refine wpAnyH_ready (rs := [18]) (by kernel_rfl) (by simp) ?_
            refine AllReadyH.cons rfl (fun K hK => ?_) AllReadyH.nil
            rw [if_pos (by rfl)]
            refine wp_store_row 53 _ _ rfl kK17 #[.int .i64 (Tm.evt m st.c (k + x) (st.at_ x)).1, .int .i64 (Tm.evt m st.c (k + x) (st.at_ x)).2.1, .int .i64 (Tm.evt m st.c (k + x) (st.at_ x)).2.2] rfl rfl 53 _ K17.out (by kernel_rfl) rfl (by simp [Value.oneCell']) ?_
            refine hK.out _ _ (below_row HSa.out hgeK17 _) (fun hS2 => ?_)
            clear hK K
            change wpAnyH _ _ _ _ _ _ _ (Act.put _ none _) _
            try simp only [Act.put]
            generalize hwb : World.setRow _ _ _ = wb at hS2 ⊢
            replace RN := Lib.hid (show wb.rowIs _ _ _ _ by rw [← hwb]; exact rowIs_far RN.out (rowIs_ne RN.out K17.out (by decide)))
            replace RF := Lib.hid (show wb.rowIs _ _ _ _ by rw [← hwb]; exact rowIs_far RF.out (rowIs_ne RF.out K17.out (by decide)))
            replace K16 := Lib.hid (show Blk wb _ _ _ by rw [← hwb]; exact far_row_blk K16.out (Blk.ne_ K16.out K17.out (by decide)))
            replace K17 := Lib.hid (show Blk wb _ _ #[.int .i64 (Tm.evt m st.c (k + x) (st.at_ x)).1, .int .i64 (Tm.evt m st.c (k + x) (st.at_ x)).2.1, .int .i64 (Tm.evt m st.c (k + x) (st.at_ x)).2.2] by rw [← hwb]; exact set_row_blk K17.out)
            replace HSa := Lib.hid hS2
            clear hS2 hwb wa
            rename World => wa
            refine wpAnyH_done (by kernel_rfl) ?_ _
            go_wp2_with fail
            go_meet
            exact ⟨kK16, kK17, gN, gF, rfl, rfl, K16.out, K17.out, RN.out, RF.out, hgeK16, hgeK17, HSa.out⟩
        · skip
          rw [if_pos (by rfl)]
          go_simp
          refine hK.out _ _ (Below.alloc HSa.out HSa.out.size _) (fun hS2 => ?_)
          clear hK K
          try simp only [Act.put, List.setIfInBounds_toArray, List.set_cons_zero, List.set_cons_succ]
          generalize hwb : World.alloc _ _ = wb at hS2 ⊢
          have hal : Below wa.heap.size wa wb := by rw [← hwb]; exact (Below.refl _ _).alloc (Nat.le_refl _) _
          have K17 : Hid (Blk wb wa.heap.size 53 #[.int .i64 0, .int .i64 0, .int .i64 0]) := Lib.hid (by rw [← hwb]; exact Blk.new _ _ _)
          have hgeK17 : wy.heap.size ≤ wa.heap.size := HSa.out.size
          replace HSa := Lib.hid hS2
          generalize wa.heap.size = kK17 at *
          clear hS2 hwb hal
          rename World => wa
          refine wpAnyH_ready (rs := [11, 15]) (by kernel_rfl) (by simp) ?_
          refine AllReadyH.cons rfl (fun K hK => ?_) (AllReadyH.cons rfl (fun K hK => ?_) AllReadyH.nil)
          · skip
            rw [if_pos (by rfl)]
            try go_simp
            have HQa := Lib.hid (HQ.out.on HSa.out hsz)
            refine (taken_r m k T S A B C c d e T T g1 g2 st.c st.at_ (st.at_ x) (k + x) wa HM.out HQ.out.ex.ok.c (by omega) (HT2.out.keep HQa.out.bel) HQa.out.r1 HQa.out.r2 (HQ.out.ex.ok.t0 x) (by have := HEX.out.2.2.1; rw [HLM.out] at this; have := HL.out.2; omega)).mono ?_
            rintro r wv ⟨⟨gN, gF, rfl, hgN, hgF, -, -⟩, hb⟩
            refine hK.out _ _ (below_seq HSa.out hb) (fun hS2 => ?_)
            clear hK K HQa
            try simp only [Act.put, List.setIfInBounds_toArray, List.set_cons_zero, List.set_cons_succ]
            have RN := Lib.hid hgN
            have RF := Lib.hid hgF
            replace K17 := Lib.hid (K17.out.keep hb)
            replace HSa := Lib.hid hS2
            clear hS2 hb hgN hgF wa
            rename World => wa
            refine takeH (i := 12) (d := some 68) (v := ?_) rfl rfl (by kernel_rfl) (by kernel_rfl) (by kernel_rfl) (fun _ _ _ h => h) (Or.inl ⟨by rfl, ?_⟩) HSa.out ?_
            rotate_left
            · intro wx hSx; clear hSx; first | (go_simp; done) | (go_simp; with_reducible rfl)
            simp only [Act.put, List.setIfInBounds_toArray, List.set_cons_zero, List.set_cons_succ]
            refine takeH (i := 13) (d := some 81) (v := ?_) rfl rfl (by kernel_rfl) (by kernel_rfl) (by kernel_rfl) (fun _ _ _ h => h) (Or.inl ⟨by rfl, ?_⟩) HSa.out ?_
            rotate_left
            · intro wx hSx; clear hSx; first | (go_simp; done) | (go_simp; with_reducible rfl)
            simp only [Act.put, List.setIfInBounds_toArray, List.set_cons_zero, List.set_cons_succ]
            refine takeH (i := 14) (d := some 82) (v := ?_) rfl rfl (by kernel_rfl) (by kernel_rfl) (by kernel_rfl) (fun _ _ _ h => h) (Or.inl ⟨by rfl, ?_⟩) HSa.out ?_
            rotate_left
            · intro wx hSx; clear hSx; first | (go_simp; done) | (go_simp; with_reducible rfl)
            simp only [Act.put, List.setIfInBounds_toArray, List.set_cons_zero, List.set_cons_succ]
            refine wpAnyH_ready (rs := [15]) (by kernel_rfl) (by simp) ?_
            refine AllReadyH.cons rfl (fun K hK => ?_) AllReadyH.nil
            rw [if_pos (by rfl)]
            go_simp
            refine hK.out _ _ (Below.alloc HSa.out HSa.out.size _) (fun hS2 => ?_)
            clear hK K
            try simp only [Act.put, List.setIfInBounds_toArray, List.set_cons_zero, List.set_cons_succ]
            generalize hwb : World.alloc _ _ = wb at hS2 ⊢
            have hal : Below wa.heap.size wa wb := by rw [← hwb]; exact (Below.refl _ _).alloc (Nat.le_refl _) _
            have K16 : Hid (Blk wb wa.heap.size 90 #[.int .i64 0, .slice none 0 0, .slice none 0 0]) := Lib.hid (by rw [← hwb]; exact Blk.new _ _ _)
            have hgeK16 : wy.heap.size ≤ wa.heap.size := HSa.out.size
            replace RN := Lib.hid (rowIs_keep RN.out hal)
            replace RF := Lib.hid (rowIs_keep RF.out hal)
            replace K17 := Lib.hid (K17.out.keep hal)
            replace HSa := Lib.hid hS2
            generalize wa.heap.size = kK16 at *
            clear hS2 hwb hal
            rename World => wa
            refine wpAnyH_ready (rs := [17]) (by kernel_rfl) (by simp) ?_
            refine AllReadyH.cons rfl (fun K hK => ?_) AllReadyH.nil
            rw [if_pos (by rfl)]
            refine wp_store_row 90 _ _ rfl kK16 #[.int .i64 ((Tm.aftC m k st.c (k + x)).1 : Nat), .slice (some ⟨gN, 0, none⟩) T T, .slice (some ⟨gF, 0, none⟩) T T] rfl rfl 90 _ K16.out (by kernel_rfl) rfl (by simp [Value.oneCell']) ?_
            refine hK.out _ _ (below_row HSa.out hgeK16 _) (fun hS2 => ?_)
            clear hK K
            change wpAnyH _ _ _ _ _ _ _ (Act.put _ none _) _
            try simp only [Act.put]
            generalize hwb : World.setRow _ _ _ = wb at hS2 ⊢
            replace RN := Lib.hid (show wb.rowIs _ _ _ _ by rw [← hwb]; exact rowIs_far RN.out (rowIs_ne RN.out K16.out (by decide)))
            replace RF := Lib.hid (show wb.rowIs _ _ _ _ by rw [← hwb]; exact rowIs_far RF.out (rowIs_ne RF.out K16.out (by decide)))
            replace K17 := Lib.hid (show Blk wb _ _ _ by rw [← hwb]; exact far_row_blk K17.out (Blk.ne_ K17.out K16.out (by decide)))
            replace K16 := Lib.hid (show Blk wb _ _ #[.int .i64 ((Tm.aftC m k st.c (k + x)).1 : Nat), .slice (some ⟨gN, 0, none⟩) T T, .slice (some ⟨gF, 0, none⟩) T T] by rw [← hwb]; exact set_row_blk K16.out)
            replace HSa := Lib.hid hS2
            clear hS2 hwb wa
            rename World => wa
            refine wpAnyH_ready (rs := [18]) (by kernel_rfl) (by simp) ?_
            refine AllReadyH.cons rfl (fun K hK => ?_) AllReadyH.nil
            rw [if_pos (by rfl)]
            refine wp_store_row 53 _ _ rfl kK17 #[.int .i64 (Tm.evt m st.c (k + x) (st.at_ x)).1, .int .i64 (Tm.evt m st.c (k + x) (st.at_ x)).2.1, .int .i64 (Tm.evt m st.c (k + x) (st.at_ x)).2.2] rfl rfl 53 _ K17.out (by kernel_rfl) rfl (by simp [Value.oneCell']) ?_
            refine hK.out _ _ (below_row HSa.out hgeK17 _) (fun hS2 => ?_)
            clear hK K
            change wpAnyH _ _ _ _ _ _ _ (Act.put _ none _) _
            try simp only [Act.put]
            generalize hwb : World.setRow _ _ _ = wb at hS2 ⊢
            replace RN := Lib.hid (show wb.rowIs _ _ _ _ by rw [← hwb]; exact rowIs_far RN.out (rowIs_ne RN.out K17.out (by decide)))
            replace RF := Lib.hid (show wb.rowIs _ _ _ _ by rw [← hwb]; exact rowIs_far RF.out (rowIs_ne RF.out K17.out (by decide)))
            replace K16 := Lib.hid (show Blk wb _ _ _ by rw [← hwb]; exact far_row_blk K16.out (Blk.ne_ K16.out K17.out (by decide)))
            replace K17 := Lib.hid (show Blk wb _ _ #[.int .i64 (Tm.evt m st.c (k + x) (st.at_ x)).1, .int .i64 (Tm.evt m st.c (k + x) (st.at_ x)).2.1, .int .i64 (Tm.evt m st.c (k + x) (st.at_ x)).2.2] by rw [← hwb]; exact set_row_blk K17.out)
            replace HSa := Lib.hid hS2
            clear hS2 hwb wa
            rename World => wa
            refine wpAnyH_done (by kernel_rfl) ?_ _
            go_wp2_with fail
            go_meet
            exact ⟨kK16, kK17, gN, gF, rfl, rfl, K16.out, K17.out, RN.out, RF.out, hgeK16, hgeK17, HSa.out⟩
          · skip
            rw [if_pos (by rfl)]
            go_simp
            refine hK.out _ _ (Below.alloc HSa.out HSa.out.size _) (fun hS2 => ?_)
            clear hK K
            try simp only [Act.put, List.setIfInBounds_toArray, List.set_cons_zero, List.set_cons_succ]
            generalize hwb : World.alloc _ _ = wb at hS2 ⊢
            have hal : Below wa.heap.size wa wb := by rw [← hwb]; exact (Below.refl _ _).alloc (Nat.le_refl _) _
            have K16 : Hid (Blk wb wa.heap.size 90 #[.int .i64 0, .slice none 0 0, .slice none 0 0]) := Lib.hid (by rw [← hwb]; exact Blk.new _ _ _)
            have hgeK16 : wy.heap.size ≤ wa.heap.size := HSa.out.size
            replace K17 := Lib.hid (K17.out.keep hal)
            replace HSa := Lib.hid hS2
            generalize wa.heap.size = kK16 at *
            clear hS2 hwb hal
            rename World => wa
            refine wpAnyH_ready (rs := [11]) (by kernel_rfl) (by simp) ?_
            refine AllReadyH.cons rfl (fun K hK => ?_) AllReadyH.nil
            rw [if_pos (by rfl)]
            try go_simp
            have HQa := Lib.hid (HQ.out.on HSa.out hsz)
            refine (taken_r m k T S A B C c d e T T g1 g2 st.c st.at_ (st.at_ x) (k + x) wa HM.out HQ.out.ex.ok.c (by omega) (HT2.out.keep HQa.out.bel) HQa.out.r1 HQa.out.r2 (HQ.out.ex.ok.t0 x) (by have := HEX.out.2.2.1; rw [HLM.out] at this; have := HL.out.2; omega)).mono ?_
            rintro r wv ⟨⟨gN, gF, rfl, hgN, hgF, -, -⟩, hb⟩
            refine hK.out _ _ (below_seq HSa.out hb) (fun hS2 => ?_)
            clear hK K HQa
            try simp only [Act.put, List.setIfInBounds_toArray, List.set_cons_zero, List.set_cons_succ]
            have RN := Lib.hid hgN
            have RF := Lib.hid hgF
            replace K16 := Lib.hid (K16.out.keep hb)
            replace K17 := Lib.hid (K17.out.keep hb)
            replace HSa := Lib.hid hS2
            clear hS2 hb hgN hgF wa
            rename World => wa
            refine takeH (i := 12) (d := some 68) (v := ?_) rfl rfl (by kernel_rfl) (by kernel_rfl) (by kernel_rfl) (fun _ _ _ h => h) (Or.inl ⟨by rfl, ?_⟩) HSa.out ?_
            rotate_left
            · intro wx hSx; clear hSx; first | (go_simp; done) | (go_simp; with_reducible rfl)
            simp only [Act.put, List.setIfInBounds_toArray, List.set_cons_zero, List.set_cons_succ]
            refine takeH (i := 13) (d := some 81) (v := ?_) rfl rfl (by kernel_rfl) (by kernel_rfl) (by kernel_rfl) (fun _ _ _ h => h) (Or.inl ⟨by rfl, ?_⟩) HSa.out ?_
            rotate_left
            · intro wx hSx; clear hSx; first | (go_simp; done) | (go_simp; with_reducible rfl)
            simp only [Act.put, List.setIfInBounds_toArray, List.set_cons_zero, List.set_cons_succ]
            refine takeH (i := 14) (d := some 82) (v := ?_) rfl rfl (by kernel_rfl) (by kernel_rfl) (by kernel_rfl) (fun _ _ _ h => h) (Or.inl ⟨by rfl, ?_⟩) HSa.out ?_
            rotate_left
            · intro wx hSx; clear hSx; first | (go_simp; done) | (go_simp; with_reducible rfl)
            simp only [Act.put, List.setIfInBounds_toArray, List.set_cons_zero, List.set_cons_succ]
            refine wpAnyH_ready (rs := [17]) (by kernel_rfl) (by simp) ?_
            refine AllReadyH.cons rfl (fun K hK => ?_) AllReadyH.nil
            rw [if_pos (by rfl)]
            refine wp_store_row 90 _ _ rfl kK16 #[.int .i64 ((Tm.aftC m k st.c (k + x)).1 : Nat), .slice (some ⟨gN, 0, none⟩) T T, .slice (some ⟨gF, 0, none⟩) T T] rfl rfl 90 _ K16.out (by kernel_rfl) rfl (by simp [Value.oneCell']) ?_
            refine hK.out _ _ (below_row HSa.out hgeK16 _) (fun hS2 => ?_)
            clear hK K
            change wpAnyH _ _ _ _ _ _ _ (Act.put _ none _) _
            try simp only [Act.put]
            generalize hwb : World.setRow _ _ _ = wb at hS2 ⊢
            replace RN := Lib.hid (show wb.rowIs _ _ _ _ by rw [← hwb]; exact rowIs_far RN.out (rowIs_ne RN.out K16.out (by decide)))
            replace RF := Lib.hid (show wb.rowIs _ _ _ _ by rw [← hwb]; exact rowIs_far RF.out (rowIs_ne RF.out K16.out (by decide)))
            replace K17 := Lib.hid (show Blk wb _ _ _ by rw [← hwb]; exact far_row_blk K17.out (Blk.ne_ K17.out K16.out (by decide)))
            replace K16 := Lib.hid (show Blk wb _ _ #[.int .i64 ((Tm.aftC m k st.c (k + x)).1 : Nat), .slice (some ⟨gN, 0, none⟩) T T, .slice (some ⟨gF, 0, none⟩) T T] by rw [← hwb]; exact set_row_blk K16.out)
            replace HSa := Lib.hid hS2
            clear hS2 hwb wa
            rename World => wa
            refine wpAnyH_ready (rs := [18]) (by kernel_rfl) (by simp) ?_
            refine AllReadyH.cons rfl (fun K hK => ?_) AllReadyH.nil
            rw [if_pos (by rfl)]
            refine wp_store_row 53 _ _ rfl kK17 #[.int .i64 (Tm.evt m st.c (k + x) (st.at_ x)).1, .int .i64 (Tm.evt m st.c (k + x) (st.at_ x)).2.1, .int .i64 (Tm.evt m st.c (k + x) (st.at_ x)).2.2] rfl rfl 53 _ K17.out (by kernel_rfl) rfl (by simp [Value.oneCell']) ?_
            refine hK.out _ _ (below_row HSa.out hgeK17 _) (fun hS2 => ?_)
            clear hK K
            change wpAnyH _ _ _ _ _ _ _ (Act.put _ none _) _
            try simp only [Act.put]
            generalize hwb : World.setRow _ _ _ = wb at hS2 ⊢
            replace RN := Lib.hid (show wb.rowIs _ _ _ _ by rw [← hwb]; exact rowIs_far RN.out (rowIs_ne RN.out K17.out (by decide)))
            replace RF := Lib.hid (show wb.rowIs _ _ _ _ by rw [← hwb]; exact rowIs_far RF.out (rowIs_ne RF.out K17.out (by decide)))
            replace K16 := Lib.hid (show Blk wb _ _ _ by rw [← hwb]; exact far_row_blk K16.out (Blk.ne_ K16.out K17.out (by decide)))
            replace K17 := Lib.hid (show Blk wb _ _ #[.int .i64 (Tm.evt m st.c (k + x) (st.at_ x)).1, .int .i64 (Tm.evt m st.c (k + x) (st.at_ x)).2.1, .int .i64 (Tm.evt m st.c (k + x) (st.at_ x)).2.2] by rw [← hwb]; exact set_row_blk K17.out)
            replace HSa := Lib.hid hS2
            clear hS2 hwb wa
            rename World => wa
            refine wpAnyH_done (by kernel_rfl) ?_ _
            go_wp2_with fail
            go_meet
            exact ⟨kK16, kK17, gN, gF, rfl, rfl, K16.out, K17.out, RN.out, RF.out, hgeK16, hgeK17, HSa.out⟩
      case rest =>
      obtain ⟨k16, k17, g1n, g2n, rfl, rfl, hk16, hk17, hr1, hr2, hge1, hge2, hbx⟩ := hcut
      rename World => wx
      have b1 := HQ.out.blk.keep hbx
      have o1 : OwnE wx w2.heap.size (.slice EE st.ev.length cE) st.ev := own_keep HQ.out.own hbx
      have O2 := Lib.hid (own_setRow (cs' := #[.int .i64 ((Tm.aftC m k st.c (k + x)).1 : Nat), .slice (some ⟨g1n, 0, none⟩) T T, .slice (some ⟨g2n, 0, none⟩) T T]) o1 b1 (by decide))
      have K17x := Lib.hid (far_row_blk (g' := k12) (cs' := #[.int .i64 ((Tm.aftC m k st.c (k + x)).1 : Nat), .slice (some ⟨g1n, 0, none⟩) T T, .slice (some ⟨g2n, 0, none⟩) T T]) hk17 (Blk.ne_ hk17 b1 (by decide)))
      have K16x := Lib.hid hk16
      have B1 := Lib.hid b1
      have R1x := Lib.hid hr1
      have R2x := Lib.hid hr2
      have HBX := Lib.hid hbx
      have hszx : w2.heap.size ≤ (wx.setRow k12 #[.int .i64 ((Tm.aftC m k st.c (k + x)).1 : Nat), .slice (some ⟨g1n, 0, none⟩) T T, .slice (some ⟨g2n, 0, none⟩) T T]).heap.size := by simp [World.setRow]; have := hbx.size; omega
      have hq6 : st.ev.length ≤ 1099511627776 := by omega
      clear hk16 hk17 hr1 hr2 hbx b1 o1
      go_upto_region 19 with fail
      go_upto_region 20 with (first | (refine wpList_load_row rfl 90 _ rfl k16 rfl 90 #[.int .i64 ((Tm.aftC m k st.c (k + x)).1 : Nat), .slice (some ⟨g1n, 0, none⟩) T T, .slice (some ⟨g2n, 0, none⟩) T T] (0, 0) _ K16x.out Try.underlying90 rfl (by kernel_rfl) ?_) | (refine wpList_store_row rfl 90 _ _ rfl k12 #[.int .i64 ((Tm.aftC m k st.c (k + x)).1 : Nat), .slice (some ⟨g1n, 0, none⟩) T T, .slice (some ⟨g2n, 0, none⟩) T T] rfl rfl 90 _ B1.out (by kernel_rfl) rfl (by simp [Value.oneCell']) ?_))
      generalize hws : World.setRow _ _ _ = ws
      have O3 : Hid (OwnE ws w2.heap.size (.slice EE st.ev.length cE) st.ev) := Lib.hid (by rw [← hws]; exact O2.out)
      have K17y : Hid (Blk ws k17 53 #[.int .i64 (Tm.evt m st.c (k + x) (st.at_ x)).1, .int .i64 (Tm.evt m st.c (k + x) (st.at_ x)).2.1, .int .i64 (Tm.evt m st.c (k + x) (st.at_ x)).2.2]) := Lib.hid (by rw [← hws]; exact K17x.out)
      replace hszx : w2.heap.size ≤ ws.heap.size := by rw [← hws]; exact hszx
      have HWS := Lib.hid hws
      clear hws
      go_upto_region 21 with (first | (refine wpList_load_row rfl 53 _ rfl k17 rfl 53 #[.int .i64 (Tm.evt m st.c (k + x) (st.at_ x)).1, .int .i64 (Tm.evt m st.c (k + x) (st.at_ x)).2.1, .int .i64 (Tm.evt m st.c (k + x) (st.at_ x)).2.2] (0, 0) _ K17y.out Try.underlying53 rfl (by kernel_rfl) ?_) | (at_builtin; refine appL evC_len (by decide) rfl (.tmp 84) (.tmp 86) 38 53 _ _ rfl Try.underlying38 infoE rfl (by decide) (y := (Tm.evt m st.c (k + x) (st.at_ x))) rfl rfl rfl rfl O3.out (evC_one _) hq6 hszx ?_; intro v5 w5 hown' hgr' _ _ _))
      rw [← HWS.out] at hgr'
      have HQ5 := Lib.hid (HQ.out.next (st' := Tm.take m k st (k + x) (st.at_ x)) HBX.out hk12 hsz R1x.out R2x.out rfl hgr' hown' rfl HEX.out.2.2.2)
      obtain ⟨E5, n5c, rfl⟩ := own_slice hown'
      clear hown' hgr' O2 K17x K16x B1 R1x R2x HBX O3 K17y HWS hszx
      have hn5 : (st.ev ++ [(Tm.evt m st.c (k + x) (st.at_ x))]).length = st.ev.length + 1 := by simp
      rw [hn5] at HQ5 ⊢
      clear hn5
      by_cases hmany : 10000 < st.ev.length + 1
      · have d1 : (10000 : Int) < (st.ev.length : Int) + 1 := by omega
        have HF := Lib.hid (HQ5.out.ex.many (by show 10000 < (st.ev ++ _).length; simp; omega))
        go_wp2
        go_ret2
        rw [HE.out, HF.out]
        exact ⟨⟨_, rfl, OwnE_nil _ _⟩, below_seq HBL.out HQ5.out.bel⟩
      have d1 : ¬ (10000 : Int) < (st.ev.length : Int) + 1 := by omega
      have HFEW : Hid (¬ 10000 < (Tm.take m k st (k + x) (st.at_ x)).ev.length) := Lib.hid (by show ¬ 10000 < (st.ev ++ _).length; simp; omega)
      clear c0 q2 fx
      go_wp2_with (first | (refine wpList_load_row rfl 90 _ rfl k12 rfl 90 #[.int .i64 ((Tm.aftC m k st.c (k + x)).1 : Nat), .slice (some ⟨g1n, 0, none⟩) T T, .slice (some ⟨g2n, 0, none⟩) T T] (0, 0) _ HQ5.out.blk Try.underlying90 rfl (by kernel_rfl) ?_))
      refine (due_r T (Tm.aftC m k st.c (k + x)) (Tm.take m k st (k + x) (st.at_ x)).at_ lm g1n g2n T T _ h4 HQ5.out.r1 HQ5.out.r2).mono ?_
      rintro r w6 ⟨rfl, hb6⟩
      have HQ6 := Lib.hid (HQ5.out.on hb6 HQ5.out.bel.size)
      clear hb6
      go_wp2_with fail
      go_roundw
      case rel => exact ⟨_, g1n, g2n, rfl, HQ6, HFEW.out⟩
      case measure => simp [lenOf] <;> omega
end Go.Proofs.Ytpcoddbkcelaoaa
