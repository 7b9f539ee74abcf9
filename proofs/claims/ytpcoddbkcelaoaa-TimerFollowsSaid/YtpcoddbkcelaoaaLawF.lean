/- The walk of the statement TimerFollows. -/
import Derived.Test.YtpcoddbkcelaoaaLawT
import Derived.Test.YtpcoddbkcelaoaaLawU
import Derived.Test.YtpcoddbkcelaoaaUFin
import Derived.Test.YtpcoddbkcelaoaaRVal
namespace Go.Proofs.Ytpcoddbkcelaoaa
open Go.RowKit

theorem untE_good {m : Tm.M} {k T S : Nat} (hok : Tm.Ok m k T S) {I : Int} {nx out : List (List Int)} (h : untE m = (0, I, nx, out)) : I = (k : Int) + (T : Int) ∧ ∃ a q, Tm.USea m k T S (Tm.unt m k T S) a q nx out ∧ ¬ a < q.length := by
  by_cases he : (Tm.unt m k T S).1 = 0
  · have e : Tm.unt m k T S = (0, (Tm.unt m k T S).2.1, (Tm.unt m k T S).2.2) := by rw [← he]
    rw [untE_ok hok e] at h
    injection h with _ h
    injection h with h1 h
    injection h with h2 h3
    rw [h2, h3] at e
    exact ⟨h1.symm, Tm.unt_end hok e⟩
  · exfalso
    unfold untE at h
    rw [hok.I, hok.T', hok.S', if_neg (by simp [hok.valid])] at h
    simp only [Int.toNat_natCast] at h
    rw [if_pos he] at h
    exact he (congrArg Prod.fst h)
theorem scale_q {w : World} {T : Nat} {K : Int} (h : T ≤ 4) (hK : 1 + (T : Int) * 1001 = K) (n m : Nat) :
    Calls Try.prog 23 #[.int .i64 (T : Nat)] (w.drewN (n + m)) fun e w' => e = .returned (.int .i64 K) ∧ ∃ j, w' = w.drewN (n + j) := by
  subst hK
  exact (scale_r T (w.drewN (n + m)) h).mono fun e w' ⟨h1, h2⟩ => ⟨h1, m, h2⟩
theorem rvalid_b {I : Int} {A B : Option Addr} {c d : Nat} {nx out : List (List Int)} {w : World} (hz : Mea.validE I 0 nx out = 0) (hN : RdM .i64 w A nx) (hO : RdM .i64 w B out) :
    Calls Try.prog 22 #[.agg #[.int .i64 I, .int .i64 0, .slice A nx.length c, .slice B out.length d]] w fun e w' => e = .returned (.int .i64 0) ∧ Below w.heap.size w w' := by
  have := rvalid I 0 A B c d nx out w hN hO
  rw [hz] at this
  exact this
set_option maxRecDepth 100000 in
set_option maxHeartbeats 8000000 in
theorem timerFollows_core (m : Tm.M) (A B C D : Option Addr) (c d e f : Nat) (wd : List (Int × Int)) (en : Int) (w : World) (hR : RdT w A B C m) (hD : Rd2 w D wd) :
    Calls Try.prog 8 #[.agg #[.int .i64 m.I, .int .i64 m.T, .int .i64 m.S, .slice A m.nx.length c, .slice B m.out.length d, .slice C m.set.length e], .slice D wd.length f, .int .i64 en] w fun e w' => e = .returned (.bool true) ∧ Below w.heap.size w w' := by
  have ml := hD.1
  obtain ⟨b, hs⟩ : ∃ b, small m = b := ⟨_, rfl⟩
  have HSM := Lib.hid hs
  clear hs
  obtain ⟨x, L, hE⟩ : ∃ x L, runE m wd en = (x, L) := ⟨_, _, rfl⟩
  have hLl : L.length ≤ 10000 := by have := runE_len m wd en; rw [hE] at this; exact this
  have HE := Lib.hid hE
  clear hE
  obtain ⟨y, I, nx, out, hF⟩ : ∃ x I nx out, untE m = (x, I, nx, out) := ⟨_, _, _, _, rfl⟩
  have HF := Lib.hid hF
  clear hF
  go_enter Try.func8, Try.ntmps8
  go_upto_region 1 with fail
  generalize hwb : World.alloc _ _ = w0
  have BX : Hid (Blk w0 w.heap.size 25 (tc m A c B d C e)) := Lib.hid (by rw [← hwb]; exact Blk.new _ _ _)
  have HBL : Hid (Below w.heap.size w w0) := Lib.hid (by rw [← hwb]; exact (Below.refl _ _).alloc (Nat.le_refl _) _)
  clear hwb
  have HR := Lib.hid (hR.keep HBL.out)
  have HD := Lib.hid (hD.keep HBL.out)
  clear hR hD
  go_wp2_with (first | (refine wpList_load_row rfl 25 _ rfl w.heap.size rfl 25 (tc m A c B d C e) (0, 0) _ BX.out Try.underlying25 rfl (by kernel_rfl) ?_))
  refine (small_eq c d e HR.out HSM.out).mono ?_
  rintro r w1 ⟨rfl, hb⟩
  replace BX := Lib.hid (BX.out.keep hb)
  replace HR := Lib.hid (HR.out.keep hb)
  replace HD := Lib.hid (HD.out.keep hb)
  replace HBL := Lib.hid (below_seq HBL.out hb)
  clear hb w0
  cases b with
  | false =>
    go_wp2_with fail
    refine (awake_p _).mono ?_
    rintro r wz ⟨rfl, hb⟩
    replace HBL := Lib.hid (below_seq HBL.out hb)
    go_wp2_with fail
    go_ret
    exact ⟨rfl, HBL.out⟩
  | true =>
    by_cases hl : (100 : Int) < (wd.length : Int)
    · skip
      go_wp2_with fail
      refine (awake_p _).mono ?_
      rintro r wz ⟨rfl, hb⟩
      replace HBL := Lib.hid (below_seq HBL.out hb)
      go_wp2_with fail
      go_ret
      exact ⟨rfl, HBL.out⟩
    go_wp2_with (first | (refine wpList_load_row rfl 25 _ rfl w.heap.size rfl 25 (tc m A c B d C e) (0, 0) _ BX.out Try.underlying25 rfl (by kernel_rfl) ?_))
    refine (run_pE HE.out HR.out HD.out).mono ?_
    rintro r w2 ⟨⟨X, cx, rfl, hX⟩, hb⟩
    have HX := Lib.hid hX
    replace BX := Lib.hid (BX.out.keep hb)
    replace HR := Lib.hid (HR.out.keep hb)
    replace HBL := Lib.hid (below_seq HBL.out hb)
    clear hb hX w1 HD
    go_wp2_with (first | (refine wpList_load_row rfl 25 _ rfl w.heap.size rfl 25 (tc m A c B d C e) (0, 0) _ BX.out Try.underlying25 rfl (by kernel_rfl) ?_))
    refine (unt_pE HF.out HR.out).mono ?_
    rintro r w3 ⟨⟨Y, Z, cy, cz, rfl, hY, hZ⟩, hb⟩
    have HY := Lib.hid hY
    have HZ := Lib.hid hZ
    replace BX := Lib.hid (BX.out.keep hb)
    replace HX := Lib.hid (HX.out.keep hb)
    replace HBL := Lib.hid (below_seq HBL.out hb)
    clear hb hY hZ w2 HR
    go_upto_region 5 with fail
    generalize hwb : World.alloc _ _ = w4
    obtain ⟨g, hg⟩ : ∃ g, g = w3.heap.size := ⟨_, rfl⟩
    have hb : Below w3.heap.size w3 w4 := by rw [← hwb]; exact (Below.refl _ _).alloc (Nat.le_refl _) _
    have PX : Hid (Blk w4 g 46 #[.int .i64 I, .int .i64 0, .slice Y nx.length cy, .slice Z out.length cz]) := Lib.hid (by rw [← hwb, hg]; exact Blk.new _ _ _)
    rw [← hg]
    replace BX := Lib.hid (BX.out.keep hb)
    replace HX := Lib.hid (HX.out.keep hb)
    replace HY := Lib.hid (HY.out.keep hb)
    replace HZ := Lib.hid (HZ.out.keep hb)
    replace HBL := Lib.hid (below_seq HBL.out hb)
    clear hb hwb hg w3
    by_cases hx : x = 0
    rotate_left
    · have e2 : (x != 0) = true := bne_iff_ne.2 hx
      have e3 : decide (x = 0) = false := decide_eq_false hx
      go_wp2_with fail
      refine (awake_p _).mono ?_
      rintro r wz ⟨rfl, hb⟩
      replace HBL := Lib.hid (below_seq HBL.out hb)
      go_wp2_with fail
      go_ret
      exact ⟨rfl, HBL.out⟩
    obtain rfl := hx.symm
    by_cases hy : y = 0
    rotate_left
    · have e2 : (y != 0) = true := bne_iff_ne.2 hy
      have e3 : decide (y = 0) = false := decide_eq_false hy
      go_wp2_with fail
      refine (awake_p _).mono ?_
      rintro r wz ⟨rfl, hb⟩
      replace HBL := Lib.hid (below_seq HBL.out hb)
      go_wp2_with fail
      go_ret
      exact ⟨rfl, HBL.out⟩
    obtain rfl := hy.symm
    by_cases h3 : (300 : Int) < (L.length : Int)
    · skip
      go_wp2_with fail
      refine (awake_p _).mono ?_
      rintro r wz ⟨rfl, hb⟩
      replace HBL := Lib.hid (below_seq HBL.out hb)
      go_wp2_with fail
      go_ret
      exact ⟨rfl, HBL.out⟩
    obtain ⟨k, T, S, hok, hwd, hrun⟩ := runE_good HE.out
    obtain ⟨rfl, a, q, hu, ha⟩ := untE_good hok HF.out
    have hval := hu.valid hok ha
    have HVE : Hid (Mea.validE ((k : Int) + (T : Int)) 0 nx out = 0) := Lib.hid (by have := hval.valid; simpa using this)
    have HF0 : Hid (Tm.FolOk (k + T) (1 + (T : Int) * 1001) nx out L 0) := Lib.hid ((Tm.runV_tr hok hwd hrun).fol hok hu ha hu.first)
    have HV := Lib.hid hval
    have h4 := hok.t4
    have h64 := hok.k64
    have HI := Lib.hid hok.I
    have HT := Lib.hid hok.T'
    clear hok hwd hrun hu ha hval HE HF hx hy HSM
    go_wp2_with (first | (refine wpList_load_row rfl 46 _ rfl g rfl 46 #[.int .i64 ((k : Int) + (T : Int)), .int .i64 0, .slice Y nx.length cy, .slice Z out.length cz] (0, 0) _ PX.out Try.underlying46 rfl (by kernel_rfl) ?_))
    refine (rvalid_b HVE.out HY.out HZ.out).mono ?_
    rintro r w5 ⟨rfl, hb⟩
    replace BX := Lib.hid (BX.out.keep hb)
    replace PX := Lib.hid (PX.out.keep hb)
    replace HX := Lib.hid (HX.out.keep hb)
    replace HY := Lib.hid (HY.out.keep hb)
    replace HZ := Lib.hid (HZ.out.keep hb)
    replace HBL := Lib.hid (below_seq HBL.out hb)
    clear hb w4
    have BT := boxT BX.out
    have c0 := BT.c0
    have c1 := BT.c1
    rw [HI.out] at c0
    rw [HT.out] at c1
    clear BT BX
    have p0 : w5.cell? ⟨g, 0, none⟩ = some (.int .i64 ((k : Int) + (T : Int))) := PX.out.cell 0
    have p1 : w5.cell? ⟨g, 1, none⟩ = some (.int .i64 0) := PX.out.cell 1
    have p2 : w5.cell? ⟨g, 2, none⟩ = some (.slice Y nx.length cy) := PX.out.cell 2
    have p3 : w5.cell? ⟨g, 3, none⟩ = some (.slice Z out.length cz) := PX.out.cell 3
    clear PX
    have hw1 := IntWalk.i64_in ((k : Int) + (T : Int)) (by omega)
    have eb : (((k : Int) + (T : Int)) != ((k : Int) + (T : Int))) = false := by simp
    go_upto_region 10 with fail
    clear eb hw1 c0
    obtain ⟨K, hK⟩ : ∃ K, 1 + (T : Int) * 1001 = K := ⟨_, rfl⟩
    have hK1 : 1 ≤ K := by omega
    have hK2 : K ≤ 5000 := by omega
    rw [hK] at HF0
    have HSC := Lib.hid (fun n m => scale_q (w := w5) h4 hK n m)
    clear hK
    go_wp2_with fail
    go_loopw [11, 12] (fun p q wr => ∃ (s n u : Nat), n ≤ L.length ∧ p = .int .i64 s ∧ q = .int .i64 n ∧ wr = w5.drewN u ∧ Hid (Tm.FolOk (k + T) K nx out (L.drop n) s)) (fun _ q _ => L.length - (intOf q).toNat)
    case atStart => exact ⟨0, 0, 0, Nat.zero_le _, rfl, rfl, rfl, HF0⟩
    case round =>
      obtain ⟨s, n, u, hn, rfl, rfl, rfl, HT0⟩ := hrel
      by_cases hnL : n < L.length
      rotate_left
      · clear HT0 HF0 HY HZ HX HV HSC
        go_wp2_with fail
        refine (awake_p _).mono ?_
        rintro r wz ⟨rfl, hb⟩
        replace HBL := Lib.hid (below_seq HBL.out ((below_drewN' (Below.refl _ _) u).trans (hb.mono (Nat.le_refl _))))
        go_wp2_with fail
        go_ret
        exact ⟨rfl, HBL.out⟩
      obtain ⟨⟨t, y, o⟩, hxe, hxd⟩ := drop_cons hnL
      obtain ⟨ad, rfl, hcell⟩ := HX.out.at_ hxe
      have g1 := hcell 1 _ rfl
      have g2 := hcell 2 _ rfl
      rw [← ad_add, add_one] at g1
      rw [← ad_add, add_two] at g2
      have hT := HT0.out
      rw [hxd] at hT
      obtain ⟨t0, t1, hsl, ho1, ho2, s', hs1, hs2, hrest⟩ := hT
      dsimp only at t0 t1 hsl ho1 ho2 hs1 g1 g2
      have HREST := Lib.hid hrest
      obtain ⟨z, rfl⟩ : ∃ z : Nat, y = z := ⟨y.toNat, by omega⟩
      rw [Int.toNat_natCast] at ho1 ho2 hs1
      have hz : z < k + T := by omega
      have hso : s < out.length := by rw [HV.out.o]; exact hsl
      obtain ⟨ady, R1, r1, ns, rfl, hns, cns, rns⟩ := HY.out.at_ hsl
      obtain ⟨adz, R2, r2, os, rfl, hos, cos, ros⟩ := HZ.out.at_ hso
      have ln : ns.length = k + T := by rw [← hns]; exact HV.out.rowN s hsl
      have lo : os.length = k + T := by rw [← hos]; exact HV.out.rowO s hsl
      have hcl := HV.out.cell s z hsl hz
      unfold Mea.okC at hcl
      rw [hns, hos] at hcl
      rw [hns] at hs1
      rw [hos] at ho1 ho2
      obtain ⟨adn, vn, rfl, hvn, cvn⟩ := rns.at_ (show z < ns.length by omega)
      obtain ⟨ado, vo, rfl, hvo, cvo⟩ := ros.at_ (show z < os.length by omega)
      rw [hvn] at hs1
      rw [hvo] at ho1 ho2
      rw [hvn, hvo] at hcl
      obtain rfl := hs1
      have hvb : vo ≤ 1048576 := hcl.2.2.2
      have ob0 : 0 ≤ o := by rw [← ho2]; exact Int.tdiv_nonneg (by omega) (by omega)
      have ob1 : o ≤ 1048576 := by rw [← ho2]; have := Int.tdiv_le_self (a := vo - 1) K (by omega); omega
      have HO2 := Lib.hid ho2
      have l1 : z < ns.length := by omega
      have l2 : z < os.length := by omega
      clear hxe hxd hcell HT0 hrest hns hos rns ros hvn hvo ho2 ln lo hcl
      go_wp2_with fail
      go_quiet (fail)
      go_wp2_with fail
      go_quiet (fail)
      go_wp2_with fail
      have hw1 := IntWalk.i64_in (vo - 1) (by omega)
      have hw2 := IntWalk.i64_in o (by omega)
      have d1 : decide (vo < 1) = false := decide_eq_false (by omega)
      have d2 : (o != o) = false := by simp
      have d3 : (K == 0) = false := beq_eq_false_iff_ne.2 (by omega)
      have ho2 := HO2.out
      go_quiet ((go_at_call 23; exact HSC.out _ _))
      clear ho2 hw1 hw2 d1 d2 d3
      go_wp2_with fail
      go_quiet (fail)
      go_wp2_with fail
      refine ⟨⟨s', n + 1, _, by omega, rfl, by go_num, rfl, HREST⟩, ?_⟩
      simp [intOf] <;> omega
theorem timerFollows_walk (w : World) (a0 a1 a2 : Int) (A3 : Option Addr) (c3 : Nat) (x3 : List (List Int)) (A4 : Option Addr) (c4 : Nat) (x4 : List (List Int)) (A5 : Option Addr) (c5 : Nat) (x5 : List (List (Int × Int))) (A6 : Option Addr) (c6 : Nat) (x6 : List (Int × Int)) (a7 : Int)
    (_ : (Lit.int .i64 a0).wf = true) (_ : (Lit.int .i64 a1).wf = true) (_ : (Lit.int .i64 a2).wf = true) (r3 : RdM .i64 w A3 x3) (_ : WfM .i64 x3) (r4 : RdM .i64 w A4 x4) (_ : WfM .i64 x4) (r5 : RdP w A5 x5) (r6 : Rd2 w A6 x6) (_ : (Lit.int .i64 a7).wf = true) :
    Calls Try.prog 8 #[.agg #[.int .i64 a0, .int .i64 a1, .int .i64 a2, .slice A3 x3.length c3, .slice A4 x4.length c4, .slice A5 x5.length c5], .slice A6 x6.length c6, .int .i64 a7] w fun e w' => e = .returned (.bool true) ∧ Below w.heap.size w w' :=
  timerFollows_core ⟨a0, a1, a2, x3, x4, x5⟩ A3 A4 A5 A6 c3 c4 c5 c6 x6 a7 w ⟨r3, r4, r5⟩ r6
end Go.Proofs.Ytpcoddbkcelaoaa
