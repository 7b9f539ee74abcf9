/- The walk of the statement RegisterFollows. -/
import Derived.Test.YtaoebjabdejpoaaAwk
import Derived.Test.YtaoebjabdejpoaaLawS
import Derived.Test.YtaoebjabdejpoaaLawU
import Derived.Test.YtaoebjabdejpoaaMru
namespace Go.Proofs.Ytaoebjabdejpoaa
open Go.RowKit

theorem map_getD {L : List Int} {j : Nat} (h : j < L.length) : (L.map (· + 1)).getD j 0 = L.getD j 0 + 1 := by
  rw [List.getD_eq_getElem?_getD, List.getElem?_map, List.getD_eq_getElem?_getD, List.getElem?_eq_getElem h]; rfl
namespace Rg
theorem unf_none {m : M} {d x I : Int} {nx out : List (List Int)} (h : unfE m d = (x, I, nx, out)) (h0 : x ≠ 0) : nx = [] := by
  unfold unfE at h
  split at h
  · injection h with _ h; injection h with _ h; injection h with h _; exact h.symm
  split at h
  · injection h with _ h; injection h with _ h; injection h with h _; exact h.symm
  split at h
  · injection h with _ h; injection h with _ h; injection h with h _; exact h.symm
  · injection h with h1 _; exact absurd h1.symm h0
theorem unf_valid {m : M} {d I : Int} {nx out : List (List Int)} (h : unfE m d = (0, I, nx, out)) : Mea.validE I 0 nx out = 0 := by
  obtain ⟨k, s, dn, hm, rfl, d1, d6, hk, hn, hM, _⟩ := (unfOk_of (m := m) (d := d) (by rw [h])).ex
  rw [h] at hn hM
  rw [show I = _ from hn]
  exact hM.valid
theorem run_bound {m : M} {w : Dw} {L : List Int} (h : runE m w = (0, L)) : ∀ j, j < L.length → 0 ≤ L.getD j 0 ∧ L.getD j 0 ≤ 1048576 := by
  intro j hj
  unfold runE at h
  split at h
  · rename_i h2; injection h with h1 _; exact absurd h1 h2
  rename_i hv
  split at h
  · injection h with h1 _; omega
  split at h
  · rename_i h2; injection h with h1 _; exact absurd h1 h2
  rename_i hw
  injection h with _ h
  subst h
  rw [outs_len] at hj
  obtain ⟨k, s, hm⟩ := ok_of (Classical.not_not.1 hv)
  have hw' := Classical.not_not.1 hw
  have e : (outs m w w.length).getD j 0 = outA m w j := by
    unfold outs
    rw [List.getD_eq_getElem?_getD, List.getElem?_map, List.getElem?_range hj]; rfl
  rw [e]
  have hd := dat_no (Mea.firstE_of_zero hw' j hj)
  have hI := hm.I
  have t := tOf_ok hm (stA_ok hm hw' j (by omega)) (a := (w.getD j (0, 0)).1.toNat) (by omega) (w.getD j (0, 0)).2
  exact ⟨t.o0, t.o1⟩
/-- what the run of the unfolding is to be -/
structure FolOk (I : Int) (nx out : List (List Int)) (l ys : List Int) : Prop where
  ex : ∃ k : Nat, I = k ∧ Mea.Ok k 0 nx out ∧ (∀ i, i < l.length → 0 ≤ l.getD i 0 ∧ l.getD i 0 < k) ∧ l.length ≤ 1024 ∧ mOuts nx out 0 l l.length = ys
theorem follow_all {m : M} {d I : Int} {w : Dw} {nx out : List (List Int)} {L l ys : List Int} (h : unfE m d = (0, I, nx, out)) (hr : runE m w = (0, L)) (hs : symE w m.I d = (0, l)) (hy : ys = L.map (· + 1)) : FolOk I nx out l ys := by
  have hu := unfOk_of (m := m) (d := d) (by rw [h])
  have hf := follows (w := w) hu (by rw [hr]) (by rw [hs])
  obtain ⟨k, s, dn, hm, rfl, d1, d6, hk, hn, hM, _⟩ := hu.ex
  rw [h] at hn hM
  rw [h, hr, hs] at hf
  obtain ⟨f1, f2, f3, f4, f5⟩ := hf
  dsimp only at *
  refine ⟨k * (dn + 1), hn, hM, fun i hi => ?_, by rw [f2]; exact f5, by rw [f2, hy]; exact f1⟩
  rw [← hn]; exact f4 i (by rw [← f2]; exact hi)
end Rg
theorem mvalid_b {I : Int} {A B : Option Addr} {c d : Nat} {nx out : List (List Int)} {w : World} (hz : Mea.validE I 0 nx out = 0) (hN : RdM .i64 w A nx) (hO : RdM .i64 w B out) :
    Calls Try.prog 27 #[.agg #[.int .i64 I, .int .i64 0, .slice A nx.length c, .slice B out.length d]] w fun e w' => e = .returned (.int .i64 0) ∧ Below w.heap.size w w' := by
  have := rvalid I 0 A B c d nx out w hN hO
  rw [hz] at this
  exact this
theorem mrun_b {I : Int} {A B F : Option Addr} {c d f n : Nat} {nx out : List (List Int)} {l ys : List Int} {w : World} (hz : Rg.FolOk I nx out l ys) (hn : ys.length = n) (hN : RdM .i64 w A nx) (hO : RdM .i64 w B out) (hw : Rd w F l) :
    Calls Try.prog 28 #[.agg #[.int .i64 I, .int .i64 0, .slice A nx.length c, .slice B out.length d], .slice F l.length f] w fun r w' => (∃ X cx, r = .returned (.tuple #[.slice X n cx, .int .i64 0]) ∧ Rd w' X ys) ∧ Below w.heap.size w w' := by
  obtain ⟨k, rfl, hM, h1, h2, h3⟩ := hz.ex
  subst hn
  refine (mrun_r k 0 nx out l A B F c d f w hN hO hw hM h1 h2).mono fun r w' hh => ?_
  obtain ⟨⟨v, hv, ho⟩, hb⟩ := hh
  rw [h3] at ho
  obtain ⟨X, cx, rfl⟩ := own_slice ho
  have hl : ys.length ≤ 1024 := by rw [← h3, Rg.mOuts_len]; exact h2
  exact ⟨⟨X, cx, hv, (own_rdi ho (by omega)).2⟩, hb⟩
set_option maxRecDepth 100000 in
set_option maxHeartbeats 8000000 in
theorem registerFollows_core (m : Rg.M) (A B C : Option Addr) (c d e : Nat) (di : Int) (ws : Rg.Dw) (w : World) (hR : RdA w A B m) (hW : Rd2 w C ws) (hwf : WfW ws) :
    Calls Try.prog 9 #[regV m A B c d, .int .i64 di, .slice C ws.length e] w fun e w' => e = .returned (.bool true) ∧ Below w.heap.size w w' := by
  have ml := hW.1
  have HF := Lib.hid hwf
  clear hwf
  obtain ⟨b, hs⟩ : ∃ b, small m = b := ⟨_, rfl⟩
  have HSM := Lib.hid hs
  clear hs
  obtain ⟨x, I, nx, out, hE⟩ : ∃ x I nx out, Rg.unfE m di = (x, I, nx, out) := ⟨_, _, _, _, rfl⟩
  have HE := Lib.hid hE
  clear hE
  obtain ⟨y, L, hE⟩ : ∃ x L, Rg.runE m ws = (x, L) := ⟨_, _, rfl⟩
  have HRN := Lib.hid hE
  clear hE
  obtain ⟨z, l, hE⟩ : ∃ x L, Rg.symE ws m.I di = (x, L) := ⟨_, _, rfl⟩
  have HSY := Lib.hid hE
  clear hE
  go_enter Try.func9, Try.ntmps9
  go_upto_region 1 with fail
  generalize hwb : World.alloc _ _ = w0
  have BX : Hid (Blk w0 w.heap.size 25 (tc m A c B d)) := Lib.hid (by rw [← hwb]; exact Blk.new _ _ _)
  have HBL : Hid (Below w.heap.size w w0) := Lib.hid (by rw [← hwb]; exact (Below.refl _ _).alloc (Nat.le_refl _) _)
  clear hwb
  have HR := Lib.hid (hR.keep HBL.out)
  clear hR
  have HW := Lib.hid (hW.keep HBL.out)
  clear hW
  have m1 := HR.out.rg.1
  have m2 := HR.out.tr.1
  go_wp2_with (first | (refine wpList_load_row rfl 25 _ rfl w.heap.size rfl 25 (tc m A c B d) (0, 0) _ BX.out Try.underlying25 rfl (by kernel_rfl) ?_))
  refine (small_e c d m1 m2 HSM.out).mono ?_
  rintro r w1 ⟨rfl, hb⟩
  replace BX := Lib.hid (BX.out.keep hb)
  replace HR := Lib.hid (HR.out.keep hb)
  replace HW := Lib.hid (HW.out.keep hb)
  replace HBL := Lib.hid (below_seq HBL.out hb)
  clear hb
  clear m1 m2
  cases b with
  | false =>
    go_wp2_with fail
    refine (awake_p _).mono ?_
    rintro r wz ⟨rfl, hb⟩
    replace HBL := Lib.hid (below_seq HBL.out hb)
    go_wp2_with fail
    go_ret
    exact ⟨rfl, HBL.out⟩
  | true =>
    by_cases hl : (60 : Int) < (ws.length : Int)
    · skip
      go_wp2_with fail
      refine (awake_p _).mono ?_
      rintro r wz ⟨rfl, hb⟩
      replace HBL := Lib.hid (below_seq HBL.out hb)
      go_wp2_with fail
      go_ret
      exact ⟨rfl, HBL.out⟩
    have hl2 : ws.length ≤ 2000 := by omega
    go_wp2_with (first | (refine wpList_load_row rfl 25 _ rfl w.heap.size rfl 25 (tc m A c B d) (0, 0) _ BX.out Try.underlying25 rfl (by kernel_rfl) ?_))
    refine (unfP_e HE.out HR.out).mono ?_
    rintro r w2 ⟨⟨X, Y, cx, cy, rfl, hX, hY⟩, hb⟩
    have HX := Lib.hid hX
    have HY := Lib.hid hY
    replace BX := Lib.hid (BX.out.keep hb)
    replace HR := Lib.hid (HR.out.keep hb)
    replace HW := Lib.hid (HW.out.keep hb)
    replace HBL := Lib.hid (below_seq HBL.out hb)
    clear hb hX hY
    go_upto_region 4 with fail
    generalize hwb : World.alloc _ _ = w3
    have hb : Below w2.heap.size w2 w3 := by rw [← hwb]; exact (Below.refl _ _).alloc (Nat.le_refl _) _
    have P1 : Hid (Blk w3 w2.heap.size 52 #[.int .i64 I, .int .i64 0, .slice X nx.length cx, .slice Y out.length cy]) := Lib.hid (by rw [← hwb]; exact Blk.new _ _ _)
    clear hwb
    replace BX := Lib.hid (BX.out.keep hb)
    replace HR := Lib.hid (HR.out.keep hb)
    replace HW := Lib.hid (HW.out.keep hb)
    replace HX := Lib.hid (HX.out.keep hb)
    replace HY := Lib.hid (HY.out.keep hb)
    replace HBL := Lib.hid (below_seq HBL.out hb)
    clear hb
    generalize w2.heap.size = gP1 at P1 ⊢
    by_cases hx : x = 0
    rotate_left
    · obtain rfl := Rg.unf_none HE.out hx
      have e2 : (x != 0) = true := bne_iff_ne.2 hx
      have e3 : decide (x = 0) = false := decide_eq_false hx
      have e4 : (x == 0) = false := beq_eq_false_iff_ne.2 hx
      have p2 : w3.cell? ⟨gP1, 2, none⟩ = some (.slice X 0 cx) := P1.out.cell 2
      clear hx
      go_wp2_with fail
      refine (awake_p _).mono ?_
      rintro r wz ⟨rfl, hb⟩
      replace HBL := Lib.hid (below_seq HBL.out hb)
      go_wp2_with fail
      go_ret
      exact ⟨rfl, HBL.out⟩
    subst hx
    have HV : Hid (Mea.validE I 0 nx out = 0) := Lib.hid (Rg.unf_valid HE.out)
    go_wp2_with (first | (refine wpList_load_row rfl 52 _ rfl gP1 rfl 52 (#[.int .i64 I, .int .i64 0, .slice X nx.length cx, .slice Y out.length cy]) (0, 0) _ P1.out Try.underlying52 rfl (by kernel_rfl) ?_))
    refine (mvalid_b HV.out HX.out HY.out).mono ?_
    rintro r w4 ⟨rfl, hb⟩
    replace BX := Lib.hid (BX.out.keep hb)
    replace HR := Lib.hid (HR.out.keep hb)
    replace HW := Lib.hid (HW.out.keep hb)
    replace HX := Lib.hid (HX.out.keep hb)
    replace HY := Lib.hid (HY.out.keep hb)
    replace P1 := Lib.hid (P1.out.keep hb)
    replace HBL := Lib.hid (below_seq HBL.out hb)
    clear hb
    go_wp2_with (first | (refine wpList_load_row rfl 25 _ rfl w.heap.size rfl 25 (tc m A c B d) (0, 0) _ BX.out Try.underlying25 rfl (by kernel_rfl) ?_))
    refine (runP_e HRN.out HR.out HW.out).mono ?_
    rintro r w5 ⟨⟨U, cu, rfl, hU⟩, hb⟩
    have HU := Lib.hid hU
    replace BX := Lib.hid (BX.out.keep hb)
    replace HR := Lib.hid (HR.out.keep hb)
    replace HW := Lib.hid (HW.out.keep hb)
    replace HX := Lib.hid (HX.out.keep hb)
    replace HY := Lib.hid (HY.out.keep hb)
    replace P1 := Lib.hid (P1.out.keep hb)
    replace HBL := Lib.hid (below_seq HBL.out hb)
    clear hb hU
    have b0 : w5.cell? ⟨w.heap.size, 0, none⟩ = some (.int .i64 m.I) := BX.out.cell 0
    go_wp2_with fail
    refine (symP_e HSY.out HW.out HF.out hl2).mono ?_
    rintro r w6 ⟨⟨V, cv, rfl, hV⟩, hb⟩
    have HS := Lib.hid hV
    replace BX := Lib.hid (BX.out.keep hb)
    replace HR := Lib.hid (HR.out.keep hb)
    replace HW := Lib.hid (HW.out.keep hb)
    replace HX := Lib.hid (HX.out.keep hb)
    replace HY := Lib.hid (HY.out.keep hb)
    replace P1 := Lib.hid (P1.out.keep hb)
    replace HU := Lib.hid (HU.out.keep hb)
    replace HBL := Lib.hid (below_seq HBL.out hb)
    clear hb hV
    clear HW BX HR
    clear b0
    by_cases hy : y = 0
    rotate_left
    · have e2 : (y != 0) = true := bne_iff_ne.2 hy
      have e3 : decide (y = 0) = false := decide_eq_false hy
      have e4 : (y == 0) = false := beq_eq_false_iff_ne.2 hy
      clear hy
      go_wp2_with fail
      refine (awake_p _).mono ?_
      rintro r wz ⟨rfl, hb⟩
      replace HBL := Lib.hid (below_seq HBL.out hb)
      go_wp2_with fail
      go_ret
      exact ⟨rfl, HBL.out⟩
    subst hy
    by_cases hz : z = 0
    rotate_left
    · have e2 : (z != 0) = true := bne_iff_ne.2 hz
      have e3 : decide (z = 0) = false := decide_eq_false hz
      have e4 : (z == 0) = false := beq_eq_false_iff_ne.2 hz
      clear hz
      go_wp2_with fail
      refine (awake_p _).mono ?_
      rintro r wz ⟨rfl, hb⟩
      replace HBL := Lib.hid (below_seq HBL.out hb)
      go_wp2_with fail
      go_ret
      exact ⟨rfl, HBL.out⟩
    subst hz
    obtain ⟨ys, hys⟩ : ∃ ys, ys = L.map (· + 1) := ⟨_, rfl⟩
    have HFL := Lib.hid (Rg.follow_all HE.out HRN.out HSY.out hys)
    have hyl : ys.length = L.length := by rw [hys, List.length_map]
    have HYL := Lib.hid hyl
    have HYS := Lib.hid hys
    have HBD := Lib.hid (Rg.run_bound HRN.out)
    clear hys hyl
    go_wp2_with (first | (refine wpList_load_row rfl 52 _ rfl gP1 rfl 52 (#[.int .i64 I, .int .i64 0, .slice X nx.length cx, .slice Y out.length cy]) (0, 0) _ P1.out Try.underlying52 rfl (by kernel_rfl) ?_))
    refine (mrun_b HFL.out HYL.out HX.out HY.out HS.out).mono ?_
    rintro r w7 ⟨⟨Z, cz, rfl, hZ⟩, hb⟩
    have HZ := Lib.hid hZ
    replace HX := Lib.hid (HX.out.keep hb)
    replace HY := Lib.hid (HY.out.keep hb)
    replace P1 := Lib.hid (P1.out.keep hb)
    replace HU := Lib.hid (HU.out.keep hb)
    replace HS := Lib.hid (HS.out.keep hb)
    replace HBL := Lib.hid (below_seq HBL.out hb)
    clear hb hZ
    clear HX HY HS P1
    have mL := HU.out.1
    go_wp2_with fail
    go_loopw [15] (fun i wr => ∃ j n : Nat, j ≤ L.length ∧ i = .int .i64 j ∧ wr = w7.drewN n) (fun i _ => L.length - (intOf i).toNat)
    case atStart => exact ⟨0, 0, Nat.zero_le _, rfl, rfl⟩
    case round =>
      obtain ⟨j, n, hj, rfl, rfl⟩ := hrel
      by_cases hjl : j < L.length
      · obtain ⟨ad, o, rfl, ho, co⟩ := HU.out.at_ hjl
        obtain ⟨ad2, q, rfl, hq, cq⟩ := HZ.out.at_ (i := j) (by rw [HYL.out]; exact hjl)
        have hb := HBD.out j hjl
        rw [ho] at hb
        obtain ⟨ho0, ho1⟩ := hb
        obtain rfl : q = o + 1 := by rw [← hq, HYS.out, map_getD hjl, ho]
        have hwo : IntKind.i64.wrap (o + 1) = o + 1 := IntWalk.i64_in (o + 1) (by omega)
        have e1 : (o + 1 != o + 1) = false := by simp
        clear ho hq
        go_wp2_with fail
        go_quiet (fail)
        go_wp2
        go_roundw
        case rel => exact ⟨j + 1, _, by omega, by go_num, rfl⟩
        case measure => simp [intOf] <;> omega
      · obtain rfl : j = L.length := by omega
        replace HBL := Lib.hid (below_drewN' HBL.out n)
        go_wp2_with fail
        refine (awake_p _).mono ?_
        rintro r wz ⟨rfl, hb⟩
        replace HBL := Lib.hid (below_seq HBL.out hb)
        go_wp2_with fail
        go_ret
        exact ⟨rfl, HBL.out⟩
theorem registerFollows_walk (w : World) (a0 a1 : Int) (A2 : Option Addr) (c2 : Nat) (x2 : List Int) (A3 : Option Addr) (c3 : Nat) (x3 : List (List (List Rg.T))) (a4 : Int) (A5 : Option Addr) (c5 : Nat) (x5 : Rg.Dw)
    (_ : (Lit.int .i64 a0).wf = true) (_ : (Lit.int .i64 a1).wf = true) (r2 : Rd w A2 x2) (_ : Wf .i64 x2) (r3 : RdS (RdS RdT) w A3 x3) (_ : (Lit.int .i64 a4).wf = true) (r5 : Rd2 w A5 x5) (w5 : WfW x5) :
    Calls Try.prog 9 #[.agg #[.int .i64 a0, .int .i64 a1, .slice A2 x2.length c2, .slice A3 x3.length c3], .int .i64 a4, .slice A5 x5.length c5] w fun e w' => e = .returned (.bool true) ∧ Below w.heap.size w w' :=
  registerFollows_core ⟨a0, a1, x2, x3⟩ A2 A3 A5 c2 c3 c5 a4 x5 w ⟨r2, r3⟩ r5 w5
end Go.Proofs.Ytaoebjabdejpoaa
