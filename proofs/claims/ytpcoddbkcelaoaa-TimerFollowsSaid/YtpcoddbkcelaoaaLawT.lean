/- The walk of the statement TimerTimes. -/
import Derived.Test.YtpcoddbkcelaoaaLawR
import Derived.Test.YtpcoddbkcelaoaaEvs
namespace Go.Proofs.Ytpcoddbkcelaoaa
open Go.RowKit

theorem runE_bad_nil {m : Tm.M} {wd : List (Int × Int)} {en x : Int} {L : List Tm.Ev} (h : runE m wd en = (x, L)) (hx : x ≠ 0) : L = [] := by
  unfold runE at h
  split at h
  · exact (congrArg Prod.snd h).symm
  · split at h
    · exact (congrArg Prod.snd h).symm
    · unfold Tm.runV Tm.stop at h
      split at h
      · exact (congrArg Prod.snd h).symm
      · split at h
        · exact (congrArg Prod.snd h).symm
        · exact absurd (congrArg Prod.fst h).symm hx
theorem runE_good {m : Tm.M} {wd : List (Int × Int)} {en : Int} {L : List Tm.Ev} (h : runE m wd en = (0, L)) : ∃ k T S, Tm.Ok m k T S ∧ Tm.WordOk k wd en ∧ Tm.runV m k T S wd en = (0, L) := by
  by_cases hv : Tm.validE m = 0
  · obtain ⟨k, T, S, hok⟩ := Tm.ok_of hv
    by_cases hw : Tm.wordE m.I wd en = 0
    · exact ⟨k, T, S, hok, Tm.word_ok (by rw [← hok.I]; exact hw), by rw [← runE_ok hok hw]; exact h⟩
    · rw [runE_word hv hw] at h; exact absurd (congrArg Prod.fst h) hw
  · rw [runE_bad hv] at h; exact absurd (congrArg Prod.fst h) hv
theorem drop_cons {α : Type} {L : List α} {n : Nat} (h : n < L.length) : ∃ x, L[n]? = some x ∧ L.drop n = x :: L.drop (n + 1) :=
  ⟨L[n], List.getElem?_eq_getElem h, List.drop_eq_getElem_cons h⟩
theorem drop_end {α : Type} {L : List α} {n : Nat} (h : ¬ n < L.length) : L.drop n = [] := List.drop_eq_nil_of_le (by omega)
theorem add_one (a : Addr) : a.add 1 = ⟨a.block, a.off + 1, none⟩ := by unfold Addr.add; simp
theorem add_two (a : Addr) : a.add 2 = ⟨a.block, a.off + 2, none⟩ := by unfold Addr.add; simp
set_option maxRecDepth 100000 in
set_option maxHeartbeats 8000000 in
theorem timerTimes_core (m : Tm.M) (A B C D : Option Addr) (c d e f : Nat) (wd : List (Int × Int)) (en : Int) (w : World) (hR : RdT w A B C m) (hD : Rd2 w D wd) :
    Calls Try.prog 6 #[.agg #[.int .i64 m.I, .int .i64 m.T, .int .i64 m.S, .slice A m.nx.length c, .slice B m.out.length d, .slice C m.set.length e], .slice D wd.length f, .int .i64 en] w fun e w' => e = .returned (.bool true) ∧ Below w.heap.size w w' := by
  have ml := hD.1
  obtain ⟨b, hs⟩ : ∃ b, small m = b := ⟨_, rfl⟩
  have HSM := Lib.hid hs
  clear hs
  obtain ⟨x, L, hE⟩ : ∃ x L, runE m wd en = (x, L) := ⟨_, _, rfl⟩
  have hLl : L.length ≤ 10000 := by have := runE_len m wd en; rw [hE] at this; exact this
  have HE := Lib.hid hE
  clear hE
  go_enter Try.func6, Try.ntmps6
  go_upto_region 1 with fail
  generalize hwb : World.alloc _ _ = w0
  have BX : Hid (Blk w0 w.heap.size 25 (tc m A c B d C e)) := Lib.hid (by rw [← hwb]; exact Blk.new _ _ _)
  have HBL : Hid (Below w.heap.size w w0) := Lib.hid (by rw [← hwb]; exact (Below.refl _ _).alloc (Nat.le_refl _) _)
  clear hwb
  have HR := Lib.hid (hR.keep HBL.out)
  have HD := Lib.hid (hD.keep HBL.out)
  clear hR hD
  go_wp2_with (first | (refine wpList_load_row rfl 25 _ rfl w.heap.size rfl 25 (tc m A c B d C e) (0, 0) _ BX.out Try.underlying25 rfl (by kernel_rfl) ?_))
  refine (small_eq c d e HR.out HSM.out).mono ?_
  rintro r w1 ⟨rfl, hb⟩
  replace BX := Lib.hid (BX.out.keep hb)
  replace HR := Lib.hid (HR.out.keep hb)
  replace HD := Lib.hid (HD.out.keep hb)
  replace HBL := Lib.hid (below_seq HBL.out hb)
  clear hb w0
  cases b with
  | false =>
    go_wp2_with fail
    refine (awake_p _).mono ?_
    rintro r wz ⟨rfl, hb⟩
    replace HBL := Lib.hid (below_seq HBL.out hb)
    go_wp2_with fail
    go_ret
    exact ⟨rfl, HBL.out⟩
  | true =>
    by_cases hl : (100 : Int) < (wd.length : Int)
    · skip
      go_wp2_with fail
      refine (awake_p _).mono ?_
      rintro r wz ⟨rfl, hb⟩
      replace HBL := Lib.hid (below_seq HBL.out hb)
      go_wp2_with fail
      go_ret
      exact ⟨rfl, HBL.out⟩
    go_wp2_with (first | (refine wpList_load_row rfl 25 _ rfl w.heap.size rfl 25 (tc m A c B d C e) (0, 0) _ BX.out Try.underlying25 rfl (by kernel_rfl) ?_))
    refine (run_pE HE.out HR.out HD.out).mono ?_
    rintro r w2 ⟨⟨X, cx, rfl, hX⟩, hb⟩
    have HX := Lib.hid hX
    replace BX := Lib.hid (BX.out.keep hb)
    replace HD := Lib.hid (HD.out.keep hb)
    replace HBL := Lib.hid (below_seq HBL.out hb)
    clear hb hX w1 HR
    by_cases hx : x = 0
    rotate_left
    · obtain rfl : L = [] := runE_bad_nil HE.out hx
      have e1 : (x != 0) = true := bne_iff_ne.2 hx
      have e2 : decide (x = 0) = false := decide_eq_false hx
      go_wp2_with fail
      refine (awake_p _).mono ?_
      rintro r wz ⟨rfl, hb⟩
      replace HBL := Lib.hid (below_seq HBL.out hb)
      go_wp2_with fail
      go_ret
      exact ⟨rfl, HBL.out⟩
    obtain rfl := hx.symm
    obtain ⟨k, T, S, hok, hwd, hrun⟩ := runE_good HE.out
    have HT0 : Hid (Tm.TimOk m.I wd en L 0 0) := Lib.hid (by rw [hok.I]; exact (Tm.runV_tr hok hwd hrun).tim hwd)
    have HW := Lib.hid hwd
    clear hok hwd hrun HE hx HSM
    have BT := boxT BX.out
    have c0 := BT.c0
    clear BT BX
    go_upto_region 7 with fail
    go_wp2_with fail
    go_loopw [9, 10, 11, 12] (fun p q r s wr => ∃ (nw : Int) (n j u : Nat), n ≤ L.length ∧ j ≤ wd.length ∧ p = .int .i64 nw ∧ q = .int .i64 (Tm.nowT wd j) ∧ r = .int .i64 j ∧ s = .int .i64 n ∧ wr = w2.drewN u ∧ Hid (Tm.TimOk m.I wd en (L.drop n) nw j)) (fun _ _ _ s _ => L.length - (intOf s).toNat)
    case atStart => exact ⟨0, 0, 0, 0, Nat.zero_le _, Nat.zero_le _, rfl, rfl, rfl, rfl, rfl, HT0⟩
    case round =>
      obtain ⟨nw, n, j, u, hn, hj, rfl, rfl, rfl, rfl, rfl, HT⟩ := hrel
      by_cases hnL : n < L.length
      rotate_left
      · have hT := HT.out
        rw [drop_end hnL] at hT
        obtain rfl : j = wd.length := hT
        obtain rfl : n = L.length := by omega
        clear HT HT0 hnL hn
        have e1 : ((wd.length : Int) == (wd.length : Int)) = true := beq_self_eq_true _
        go_wp2_with fail
        refine (awake_p _).mono ?_
        rintro r wz ⟨rfl, hb⟩
        replace HBL := Lib.hid (below_seq HBL.out ((below_drewN' (Below.refl _ _) u).trans (hb.mono (Nat.le_refl _))))
        go_wp2_with fail
        go_ret
        exact ⟨rfl, HBL.out⟩
      obtain ⟨⟨t, s, o⟩, hxe, hxd⟩ := drop_cons hnL
      obtain ⟨ad, rfl, hcell⟩ := HX.out.at_ hxe
      have g0 := hcell 0 _ rfl
      have g1 := hcell 1 _ rfl
      rw [Nat.add_zero] at g0
      rw [← ad_add, add_one] at g1
      have hT := HT.out
      rw [hxd] at hT
      obtain ⟨t0, t1, hA, hB⟩ := hT
      dsimp only at t0 t1 hA hB g0 g1
      have HA := Lib.hid hA
      have HB := Lib.hid hB
      clear hA hB hxe hxd hcell HT
      by_cases hs : s < m.I
      · obtain ⟨hjl, ha, hnow, hrest⟩ := HA.out hs
        obtain ⟨ad2, p, q, rfl, hpq, k0, k1⟩ := HD.out.at_ hjl
        rw [← ad_add, add_one] at k1
        rw [hpq] at ha
        obtain rfl : q = s := ha
        have hN : Tm.nowT wd (j + 1) = Tm.nowT wd j + p := by show Tm.nowT wd j + (wd.getD j (0, 0)).1 = _; rw [hpq]
        have n0 := HW.out.now0 (j := j + 1) hjl
        have n1 := HW.out.e1
        have HREST := Lib.hid hrest
        rw [hN] at hnow n0
        have HNW := Lib.hid hN
        clear hrest hpq hN HA HB
        generalize hNN : Tm.nowT wd j = N at *
        have HNN := Lib.hid hNN
        clear hNN
        obtain rfl := hnow
        unfold Tm.top at n1
        have hw1 := IntWalk.i64_in (N + p) (by omega)
        have e1 : ((j : Int) == (wd.length : Int)) = false := beq_eq_false_iff_ne.2 (by omega)
        have e2 : decide ((j : Int) = (wd.length : Int)) = false := decide_eq_false (by omega)
        have e3 : (q != q) = false := by simp
        have e4 : ((N + p) != (N + p)) = false := by simp
        go_wp2_with fail
        go_quiet (fail)
        go_wp2_with fail
        go_quiet (fail)
        go_wp2_with fail
        refine ⟨⟨N + p, n + 1, j + 1, _, by omega, by omega, rfl, by rw [HNW.out], by go_num, by go_num, rfl, HREST⟩, ?_⟩
        simp [intOf] <;> omega
      · have hrest := Lib.hid (HB.out hs)
        clear HA HB
        go_wp2_with fail
        go_quiet (fail)
        go_wp2_with fail
        refine ⟨⟨t, n + 1, j, _, by omega, hj, rfl, rfl, rfl, by go_num, rfl, hrest⟩, ?_⟩
        simp [intOf] <;> omega
theorem timerTimes_walk (w : World) (a0 a1 a2 : Int) (A3 : Option Addr) (c3 : Nat) (x3 : List (List Int)) (A4 : Option Addr) (c4 : Nat) (x4 : List (List Int)) (A5 : Option Addr) (c5 : Nat) (x5 : List (List (Int × Int))) (A6 : Option Addr) (c6 : Nat) (x6 : List (Int × Int)) (a7 : Int)
    (_ : (Lit.int .i64 a0).wf = true) (_ : (Lit.int .i64 a1).wf = true) (_ : (Lit.int .i64 a2).wf = true) (r3 : RdM .i64 w A3 x3) (_ : WfM .i64 x3) (r4 : RdM .i64 w A4 x4) (_ : WfM .i64 x4) (r5 : RdP w A5 x5) (r6 : Rd2 w A6 x6) (_ : (Lit.int .i64 a7).wf = true) :
    Calls Try.prog 6 #[.agg #[.int .i64 a0, .int .i64 a1, .int .i64 a2, .slice A3 x3.length c3, .slice A4 x4.length c4, .slice A5 x5.length c5], .slice A6 x6.length c6, .int .i64 a7] w fun e w' => e = .returned (.bool true) ∧ Below w.heap.size w w' :=
  timerTimes_core ⟨a0, a1, a2, x3, x4, x5⟩ A3 A4 A5 A6 c3 c4 c5 c6 x6 a7 w ⟨r3, r4, r5⟩ r6
end Go.Proofs.Ytpcoddbkcelaoaa
