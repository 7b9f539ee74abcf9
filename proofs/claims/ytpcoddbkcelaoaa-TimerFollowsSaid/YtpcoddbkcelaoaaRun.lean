/- The code's events of a timed word. -/
import Derived.Test.YtpcoddbkcelaoaaWait
import Derived.Test.YtpcoddbkcelaoaaTms
import Derived.Test.YtpcoddbkcelaoaaTRow
namespace Go.Proofs.Ytpcoddbkcelaoaa
open Go.RowKit

/-- the events of a timed word, or the error: of any machine -/
def runE (m : Tm.M) (wd : List (Int × Int)) (en : Int) : Int × List Tm.Ev :=
  if Tm.validE m ≠ 0 then (Tm.validE m, []) else if Tm.wordE m.I wd en ≠ 0 then (Tm.wordE m.I wd en, []) else Tm.runV m m.I.toNat m.T.toNat m.S.toNat wd en
theorem runE_bad {m : Tm.M} {wd : List (Int × Int)} {en : Int} (h : Tm.validE m ≠ 0) : runE m wd en = (Tm.validE m, []) := by unfold runE; rw [if_pos h]
theorem runE_word {m : Tm.M} {wd : List (Int × Int)} {en : Int} (h : Tm.validE m = 0) (g : Tm.wordE m.I wd en ≠ 0) : runE m wd en = (Tm.wordE m.I wd en, []) := by unfold runE; rw [if_neg (by simp [h]), if_pos g]
theorem runE_ok {m : Tm.M} {k T S : Nat} {wd : List (Int × Int)} {en : Int} (h : Tm.Ok m k T S) (g : Tm.wordE m.I wd en = 0) : runE m wd en = Tm.runV m k T S wd en := by
  unfold runE; rw [if_neg (by simp [h.valid]), if_neg (by simp [g]), h.I, h.T', h.S']; rfl
/-- what Run hands back -/
def RunP (X : Int × List Tm.Ev) (w : World) (r : Ending) (w' : World) : Prop :=
  (∃ v, r = .returned (.tuple #[v, .int .i64 X.1]) ∧ OwnE w' w.heap.size v X.2) ∧ Below w.heap.size w w'
theorem OwnE_nil (w : World) (base : Nat) : OwnE w base (.slice none 0 0) [] := World.ownsRow_nil _ _ _ _
theorem OwnE_mono {w : World} {base base' : Nat} {v : Value} {q : List Tm.Ev} (h : OwnE w base v q) (hb : base' ≤ base) : OwnE w base' v q := own_mono h hb
section
variable {m : Tm.M} {k T : Nat} {wd : List (Int × Int)} {en : Int} {R : Int × List Tm.Ev} {i g base : Nat} {A B C : Option Addr} {c d e : Nat} {row : Option Nat} {w wr w' : World} {st st' : Tm.St} {du du' : Nat → Int} {v v' : Value}
theorem Wt.step (h : Wt m k T wd en R i g base A c B d C e row w wr st du v) (h' : Wt m k T wd en R i g base A c B d C e v.ownBlock wr w' st' du' v') : Wt m k T wd en R i g base A c B d C e row w w' st' du' v' :=
  ⟨h'.ex, h'.ag, h'.rn, h'.own, h.mv.trans h'.mv h.loc, by
    rcases h'.loc with l | ⟨b, l, hb⟩
    · rw [l]; exact h.loc
    · exact .inr ⟨b, l, Nat.le_trans h.mv.size hb⟩⟩
theorem Wt.here (h : Wt m k T wd en R i g base A c B d C e row w wr st du v) : Wt m k T wd en R i g base A c B d C e v.ownBlock wr wr st du v := ⟨h.ex, h.ag, h.rn, h.own, Mv.refl _ _ _, .inl rfl⟩
theorem Wt.on (h : Wt m k T wd en R i g base A c B d C e row w wr st du v) (hb : Below wr.heap.size wr w') : Wt m k T wd en R i g base A c B d C e row w w' st du v :=
  ⟨h.ex, h.ag, Blk.keep h.rn hb, own_keep h.own hb, h.mv.trans (Mv.of_below hb g row) (.inl rfl), h.loc⟩
end
set_option maxRecDepth 100000 in
set_option maxHeartbeats 8000000 in
theorem run_p (m : Tm.M) (A B C D : Option Addr) (c d e f : Nat) (wd : List (Int × Int)) (en : Int) (w : World) (hR : RdT w A B C m) (hD : Rd2 w D wd) :
    Calls Try.prog 16 #[.agg #[.int .i64 m.I, .int .i64 m.T, .int .i64 m.S, .slice A m.nx.length c, .slice B m.out.length d, .slice C m.set.length e], .slice D wd.length f, .int .i64 en] w (RunP (runE m wd en) w) := by
  have HR := Lib.hid hR
  have HD := Lib.hid hD
  have ml := hD.1
  clear hR hD
  go_enter Try.func16, Try.ntmps16
  go_upto_region 1 with fail
  generalize hwb : World.alloc _ _ = w0
  have BX : Hid (Blk w0 w.heap.size 25 (tc m A c B d C e)) := Lib.hid (by rw [← hwb]; exact Blk.new _ _ _)
  have HBL : Hid (Below w.heap.size w w0) := Lib.hid (by rw [← hwb]; exact (Below.refl _ _).alloc (Nat.le_refl _) _)
  clear hwb
  go_wp2_with (first | (refine wpList_load_row rfl 25 _ rfl w.heap.size rfl 25 (tc m A c B d C e) (0, 0) _ BX.out Try.underlying25 rfl (by kernel_rfl) ?_))
  refine (tvalid_p m A B C c d e w0 (HR.out.keep HBL.out)).mono ?_
  rintro r w1 ⟨rfl, hb⟩
  replace BX := Lib.hid (BX.out.keep hb)
  replace HBL := Lib.hid (below_seq HBL.out hb)
  clear hb w0
  by_cases hv : Tm.validE m = 0
  rotate_left
  · have HE := Lib.hid (runE_bad (wd := wd) (en := en) hv)
    generalize Tm.validE m = q at *
    have hbz : (q != 0) = true := by rw [bne_iff_ne]; exact hv
    clear hv
    go_wp2
    go_ret2
    rw [HE.out]
    exact ⟨⟨_, rfl, OwnE_nil _ _⟩, HBL.out⟩
  rw [hv]
  obtain ⟨k, T, S, hok⟩ := Tm.ok_of hv
  have HM := Lib.hid hok
  have h4 := hok.t4
  have h64 := hok.k64
  clear hv hok
  go_upto_region 4 with fail
  go_wp2_with (first | (refine wpList_load_row rfl 25 _ rfl w.heap.size rfl 25 (tc m A c B d C e) (0, 0) _ BX.out Try.underlying25 rfl (by kernel_rfl) ?_))
  refine (times_p m A B C D c d e f wd en w1 (HD.out.keep HBL.out)).mono ?_
  rintro r w2 ⟨⟨v2, rfl, hv2⟩, hb⟩
  have HV2 := Lib.hid hv2
  replace BX := Lib.hid (BX.out.keep hb)
  have hs1 := HBL.out.size
  replace HBL := Lib.hid (below_seq HBL.out hb)
  clear hb hv2
  by_cases hw : Tm.wordE m.I wd en = 0
  rotate_left
  · have HE := Lib.hid (runE_word (wd := wd) (en := en) HM.out.valid hw)
    generalize Tm.wordE m.I wd en = q at *
    have hbz : (q != 0) = true := by rw [bne_iff_ne]; exact hw
    clear hw
    go_wp2
    go_ret2
    rw [HE.out]
    exact ⟨⟨_, rfl, OwnE_nil _ _⟩, HBL.out⟩
  have HE := Lib.hid (runE_ok (wd := wd) (en := en) HM.out hw)
  have HO2 := Lib.hid (HV2.out hw)
  have HWD : Hid (Tm.WordOk k wd en) := Lib.hid (Tm.word_ok (by rw [← HM.out.I]; exact hw))
  rw [hw]
  clear hw HV2
  obtain ⟨E2, n2, rfl⟩ := own_slice HO2.out
  have HRT : Hid (RdK .i64 w2 E2 (timesL wd wd.length)) := Lib.hid (own_rd HO2.out (by have := HWD.out.len; omega)).2
  have BT := Lib.hid (boxT BX.out)
  have c2 := BT.out.c2
  rw [HM.out.S'] at c2
  go_upto_region 7 with fail
  go_wp2_with (first | (refine wpList_load_row rfl 25 _ rfl w.heap.size rfl 25 (tc m A c B d C e) (0, 0) _ BX.out Try.underlying25 rfl (by kernel_rfl) ?_))
  clear c2
  generalize hwb : World.alloc _ _ = w3
  have hbc : Below w2.heap.size w2 w3 := by rw [← hwb]; exact (Below.refl _ _).alloc (Nat.le_refl _) _
  have RN : Hid (Rn w3 w2.heap.size m A c B d C e (Tm.c0 S T) (fun _ => 0) (.slice none 0 0)) := Lib.hid (by
    rw [← hwb]
    refine (Blk.new _ _ _).fit ?_
    unfold rcs Tm.c0
    have g : ∀ x, (List.replicate T false).getD x false = false := fun x => by
      rw [List.getD_eq_getElem?_getD, List.getElem?_replicate]; split <;> rfl
    simp only [g])
  have HT2 := Lib.hid (HR.out.keep HBL.out)
  have HBC : Hid (Below w2.heap.size w2 w3) := Lib.hid hbc
  have hg3 : w2.heap.size < w3.heap.size := RN.out.lt
  have HW0 : Hid (Wt m k T wd en (Tm.runV m k T S wd en) 0 w2.heap.size w2.heap.size A c B d C e none w3 w3 (Tm.s0 S T) (fun _ => 0) (.slice none 0 0)) := Lib.hid ⟨Tm.Ex.start HM.out wd en, fun x hx => rfl, RN.out, OwnE_nil _ _, Mv.refl _ _ _, .inl rfl⟩
  have HD3 := Lib.hid (HD.out.keep HBL.out)
  have HLEN := Lib.hid HWD.out.len
  clear hwb hbc RN BX BT HR HD HO2
  go_upto_region 9 with fail
  generalize hg : w2.heap.size = g at *
  have HG := Lib.hid hg
  clear hg
  have HBC2 : Hid (Below w2.heap.size w2 w3) := Lib.hid (by rw [HG.out]; exact HBC.out)
  go_loopw [37] (fun i wr => ∃ (j : Nat), j ≤ wd.length ∧ i = .int .i64 j ∧ ∃ st du v, Hid (Wt m k T wd en (Tm.runV m k T S wd en) j g g A c B d C e none w3 wr st du v)) (fun i _ => wd.length - (intOf i).toNat)
  case atStart => exact ⟨0, Nat.zero_le _, rfl, _, _, _, HW0⟩
  case round =>
    obtain ⟨j, hj, rfl, st, du, v, HQ⟩ := hrel
    have hB : Below w2.heap.size w2 wr := HQ.out.mv.below HBC2.out (by rw [HG.out]; omega) (by rw [HG.out]; exact Nat.le_refl _) (fun b hb => by cases hb)
    have HB := Lib.hid hB
    clear hB
    have hwz : g ≤ wr.heap.size := by have := HQ.out.mv.size; omega
    by_cases hjl : j < wd.length
    rotate_left
    · obtain rfl : j = wd.length := by omega
      have hlim : Tm.lim wd en wd.length = en := by unfold Tm.lim; rw [if_neg (by omega)]
      go_wp2_with fail
      rw [show (Value.int IntKind.i64 en) = .int .i64 (Tm.lim wd en wd.length) by rw [hlim]]
      refine (wait_p m k T S A B C c d e wd en _ wd.length g g w2 _ st du v HM.out HWD.out HT2.out HB.out (by rw [HG.out]; exact Nat.le_refl _) (by rw [HG.out]; exact Nat.le_refl _) hwz HQ.out.here).mono ?_
      rintro r w5 ⟨rfl, st5, du5, v5, h5, hend⟩
      have H5 := Lib.hid (HQ.out.step h5)
      have HE5 := Lib.hid hend
      rw [hlim] at HE5
      clear h5 hend
      have HB5 : Hid (Below w2.heap.size w2 w5) := Lib.hid (H5.out.mv.below HBC2.out (by rw [HG.out]; omega) (by rw [HG.out]; exact Nat.le_refl _) (fun b hb => by cases hb))
      obtain ⟨F5, n5, rfl⟩ := own_slice H5.out.own
      have c15 := H5.out.rn.c15
      by_cases hmany : 10000 < st5.ev.length
      · have d1 : (10000 : Int) < (st5.ev.length : Int) := by omega
        have HF := Lib.hid (H5.out.ex.many hmany)
        go_wp2
        go_ret2
        rw [HE.out, HF.out]
        exact ⟨⟨_, rfl, OwnE_nil _ _⟩, below_seq HBL.out HB5.out⟩
      · have d1 : ¬ (10000 : Int) < (st5.ev.length : Int) := by omega
        have HF := Lib.hid (H5.out.ex.fin hmany (by rcases HE5.out with h | h; exact absurd h hmany; exact h.2) (by omega))
        go_wp2
        go_ret2
        rw [HE.out, HF.out]
        exact ⟨⟨_, rfl, OwnE_mono H5.out.own (by rw [← HG.out]; exact HBL.out.size)⟩, below_seq HBL.out HB5.out⟩
    have hlim : Tm.lim wd en j = Tm.nowT wd (j + 1) := by unfold Tm.lim; rw [if_pos hjl]
    have HLIM := Lib.hid hlim
    obtain ⟨adt, tt, rfl, htt, ctt⟩ := HRT.out.at_ (i := j) (by rw [timesL_len]; exact hjl)
    rw [timesL_get wd hjl, ← hlim] at htt
    subst htt
    have HCT := Lib.hid ctt
    obtain ⟨ad, dl, z, rfl, hdz, e0, e1⟩ := HD3.out.at_ hjl
    have HZ : Hid (z = (Tm.inp wd j : Int)) := Lib.hid (by have := HWD.out.i0 j hjl; rw [hdz] at this; exact this)
    have c0 := keep_cell HB.out e0
    have c1 := keep_cell HB.out e1
    clear hlim ctt hdz e0 e1
    go_upto_region 11 with (refine wpList_load_any rfl 55 _ rfl (ad.add (j * 2)) rfl [.int .i64 dl, .int .i64 z] _ (cells2' c0 c1) Try.underlying55 rfl (by kernel_rfl) ?_)
    clear c0 c1
    generalize hwc : World.alloc _ _ = wc
    have hbc : Below wr.heap.size wr wc := hwc ▸ (Below.refl _ _).alloc (Nat.le_refl _) _
    have G13 : Hid (Blk wc wr.heap.size 55 #[.int .i64 dl, .int .i64 z]) := Lib.hid (by rw [← hwc]; exact Blk.new _ _ _)
    have HQ2 := Lib.hid (HQ.out.on hbc)
    have HBx := Lib.hid (below_seq HB.out hbc)
    have h13g : wr.heap.size ≠ g := Nat.ne_of_gt HQ.out.rn.lt
    have h13r : some wr.heap.size ≠ v.ownBlock := fun e => Nat.lt_irrefl _ (HQ.out.own.lt _ e.symm).2
    have hwz2 : g ≤ wc.heap.size := Nat.le_trans hwz hbc.size
    generalize wr.heap.size = k13 at *
    clear hwc hbc HQ HB hwz wr
    have ct := keep_cell HBx.out HCT.out
    go_wp2_with fail
    clear ct
    refine (wait_p m k T S A B C c d e wd en _ j g g w2 _ st du v HM.out HWD.out HT2.out HBx.out (by rw [HG.out]; exact Nat.le_refl _) (by rw [HG.out]; exact Nat.le_refl _) hwz2 HQ2.out.here).mono ?_
    rintro r w5 ⟨rfl, st5, du5, v5, h5, hend⟩
    have H5 := Lib.hid (HQ2.out.step h5)
    have HE5 := Lib.hid hend
    have G5 := Lib.hid (h5.mv.blk G13.out h13g h13r)
    have h5r : some k13 ≠ v5.ownBlock := fun e => absurd (own_blk_ne h5.own G5.out (by decide)) (fun h => h e.symm)
    clear h5 hend HQ2 HBx G13 h13r hwz2
    have HB5 : Hid (Below w2.heap.size w2 w5) := Lib.hid (H5.out.mv.below HBC2.out (by rw [HG.out]; omega) (by rw [HG.out]; exact Nat.le_refl _) (fun b hb => by cases hb))
    obtain ⟨F5, n5, rfl⟩ := own_slice H5.out.own
    have c15 := H5.out.rn.c15
    by_cases hmany : 10000 < st5.ev.length
    · have d1 : (10000 : Int) < (st5.ev.length : Int) := by omega
      have HF := Lib.hid (H5.out.ex.many hmany)
      go_wp2
      go_ret2
      rw [HE.out, HF.out]
      exact ⟨⟨_, rfl, OwnE_nil _ _⟩, below_seq HBL.out HB5.out⟩
    have d1 : ¬ (10000 : Int) < (st5.ev.length : Int) := by omega
    go_upto_region 14 with fail
    clear c15 d1
    have hdue : Tm.dueF st5.c st5.at_ (Tm.nowT wd (j + 1)) T < 0 := by rw [← HLIM.out]; rcases HE5.out with h | h; exact absurd h hmany; exact h.2
    have HDU := Lib.hid hdue
    clear hdue
    have ct := keep_cell HB5.out HCT.out
    have cx : w5.cell? ⟨k13, 1, none⟩ = some (.int .i64 (Tm.inp wd j : Int)) := by rw [← HZ.out]; exact G5.out.cell 1
    have hjt : (j : Int) < ((wd.length : Nat) : Int) := by omega
    refine wp_region_held_drew (S := fun wx => wx.cell? (adt.add j) = some (.int .i64 (Tm.lim wd en j)) ∧ wx.cell? ⟨k13, 1, none⟩ = some (.int .i64 (Tm.inp wd j : Int))) (by kernel_rfl) (⟨ct, cx⟩) (fun hS => ?_)
    refine takeH (i := 0) (d := some 54) (v := ?_) rfl rfl (by kernel_rfl) (by kernel_rfl) (by kernel_rfl) (fun _ _ _ h => h) (Or.inl ⟨by rfl, ?_⟩) hS ?_
    rotate_left
    · intro wx hSx; clear hSx; first | (go_simp; done) | (go_simp; with_reducible rfl)
    simp only [Act.put, List.setIfInBounds_toArray, List.set_cons_zero, List.set_cons_succ]
    refine takeH (i := 1) (d := some 55) (v := ?_) rfl rfl (by kernel_rfl) (by kernel_rfl) (by kernel_rfl) (fun _ _ _ h => h) (Or.inl ⟨by rfl, ?_⟩) hS ?_
    rotate_left
    · intro wx hSx; clear hSx; first | (go_simp; done) | (go_simp; with_reducible rfl)
    simp only [Act.put, List.setIfInBounds_toArray, List.set_cons_zero, List.set_cons_succ]
    refine takeH (i := 2) (d := some 56) (v := ?_) rfl rfl (by kernel_rfl) (by kernel_rfl) (by kernel_rfl) (fun _ _ _ h => h) (Or.inl ⟨by rfl, ?_⟩) hS ?_
    rotate_left
    · intro wx hSx; clear hSx; first | (go_simp; done) | (go_simp; with_reducible rfl)
    simp only [Act.put, List.setIfInBounds_toArray, List.set_cons_zero, List.set_cons_succ]
    refine takeH (i := 3) (d := some 57) (v := ?_) rfl rfl (by kernel_rfl) (by kernel_rfl) (by kernel_rfl) (fun _ _ _ h => h) (Or.inl ⟨by rfl, ?_⟩) hS ?_
    rotate_left
    · intro wx hSx; clear hSx; first | (go_simp; done) | (go_simp; with_reducible rfl)
    simp only [Act.put, List.setIfInBounds_toArray, List.set_cons_zero, List.set_cons_succ]
    refine takeH (i := 4) (d := some 58) (v := ?_) rfl rfl (by kernel_rfl) (by kernel_rfl) (by kernel_rfl) (fun _ _ _ h => h) (Or.inl ⟨by rfl, ?_⟩) hS ?_
    rotate_left
    · intro wx hSx; have e0 := hSx.1; have e1 := hSx.2; clear hSx; first | (go_simp; done) | (go_simp; with_reducible rfl)
    simp only [Act.put, List.setIfInBounds_toArray, List.set_cons_zero, List.set_cons_succ]
    refine takeH (i := 5) (d := some 59) (v := ?_) rfl rfl (by kernel_rfl) (by kernel_rfl) (by kernel_rfl) (fun _ _ _ h => h) (Or.inl ⟨by rfl, ?_⟩) hS ?_
    rotate_left
    · intro wx hSx; clear hSx; first | (go_simp; done) | (go_simp; with_reducible rfl)
    simp only [Act.put, List.setIfInBounds_toArray, List.set_cons_zero, List.set_cons_succ]
    refine takeH (i := 6) (d := some 60) (v := ?_) rfl rfl (by kernel_rfl) (by kernel_rfl) (by kernel_rfl) (fun _ _ _ h => h) (Or.inl ⟨by rfl, ?_⟩) hS ?_
    rotate_left
    · intro wx hSx; have e0 := hSx.1; have e1 := hSx.2; clear hSx; first | (go_simp; done) | (go_simp; with_reducible rfl)
    simp only [Act.put, List.setIfInBounds_toArray, List.set_cons_zero, List.set_cons_succ]
    generalize hwa : World.drew _ = wa at hS ⊢
    replace H5 : Hid (Wt m k T wd en (Tm.runV m k T S wd en) j g g A c B d C e none w3 wa st5 du5 (.slice F5 st5.ev.length n5)) := Lib.hid (by rw [← hwa]; exact ⟨H5.out.ex, H5.out.ag, H5.out.rn, H5.out.own, H5.out.mv.drew, H5.out.loc⟩)
    replace HB5 : Hid (Below w2.heap.size w2 wa) := Lib.hid (by rw [← hwa]; exact HB5.out.drew)
    replace G5 : Hid (Blk wa k13 55 #[.int .i64 dl, .int .i64 z]) := Lib.hid (by rw [← hwa]; exact G5.out)
    clear ct cx
    clear hwa
    have HSa := Lib.hid hS
    clear hS
    refine wpAnyH_ready (rs := [7]) (by kernel_rfl) (by simp) ?_
    refine AllReadyH.cons rfl (fun K hK => ?_) AllReadyH.nil
    rw [if_pos (by rfl)]
    try go_simp
    have hi1 := HWD.out.i1 j hjl
    have hn1 := HWD.out.n1 (j + 1) hjl
    have he1 := HWD.out.e1
    have hn0 := HWD.out.now0 (j := j + 1) hjl
    rw [HLIM.out]
    refine (take_p m k T S A B C c d e st5.c du5 _ st5.ev (Tm.nowT wd (j + 1)) (Tm.inp wd j) g g w2 wa HM.out H5.out.ex.ok.c (by omega) (by unfold Tm.poss; simp [hi1]) HT2.out HB5.out (by rw [HG.out]; exact Nat.le_refl _) (by rw [HG.out]; exact Nat.le_refl _) (Nat.le_of_lt H5.out.rn.lt) H5.out.rn H5.out.own H5.out.ex.len hn0 (by omega)).mono ?_
    rintro r wv ⟨rfl, v6, hrn, hown, hmv, hloc⟩
    have hb6 : Below w2.heap.size w2 wv := hmv.below HB5.out HB5.out.size (by rw [HG.out]; exact Nat.le_refl _) (fun b hb => by rw [HG.out]; exact (H5.out.own.lt b hb).1)
    refine hK.out _ _ ⟨keep_cell hb6 HCT.out, (hmv.blk G5.out h13g h5r).cell 1 |>.trans (by rw [← HZ.out]; rfl)⟩ (fun hS2 => ?_)
    clear hK K hS2
    try simp only [Act.put, List.setIfInBounds_toArray, List.set_cons_zero, List.set_cons_succ]
    have HQ6 : Hid (Wt m k T wd en (Tm.runV m k T S wd en) (j + 1) g g A c B d C e none w3 wv _ _ v6) := Lib.hid ⟨H5.out.ex.input HM.out HWD.out hmany HDU.out hjl, H5.out.ag.take (k := k) (m := m) (i := Tm.inp wd j) (now := Tm.nowT wd (j + 1)), hrn, hown, H5.out.mv.trans hmv H5.out.loc, by
      rcases hloc with h | ⟨b, h, hb⟩
      · rw [h]; exact H5.out.loc
      · exact .inr ⟨b, h, Nat.le_trans H5.out.mv.size hb⟩⟩
    clear hrn hown hmv hloc hb6 hn0 hn1 he1 hi1
    refine wpAnyH_done (by kernel_rfl) ?_ _
    go_wp2_with fail
    go_roundw
    case rel => exact ⟨j + 1, by omega, by go_num, _, _, _, HQ6⟩
    case measure => simp [intOf] <;> omega
end Go.Proofs.Ytpcoddbkcelaoaa
