/- The walk of CodecTrips. -/
import Derived.Test.YtepeamhoajlniaaLaw05c
namespace Go.Proofs.Ytepeamhoajlniaa
open Go.RowKit

namespace Cod
theorem putW_le20 (l : List (List Int)) (h : ∀ x ∈ l, x.length ≤ 20 ∧ ∀ y ∈ x, I64 y) (hl : l.length ≤ 20) : (putW l).length ≤ 5000 := by
  have := upto_le putL l l.length 210 (fun x hx => by have := putL_le x (h x hx).2 (by have := (h x hx).1; omega); have := (h x hx).1; omega) (by omega)
  rw [upto_all] at this
  have h2 : (putW l).length ≤ 10 + 210 * l.length := this
  omega
theorem putL_len1 (l : List Int) : 1 ≤ (putL l).length := by unfold putL cat; have := put_len1 l.length; simp only [List.length_append]; omega
theorem putW_len1 (l : List (List Int)) : 1 ≤ (putW l).length := by unfold putW cat; have := put_len1 l.length; simp only [List.length_append]; omega
end Cod
theorem wf16 {a : Int} (w : (Lit.int .u16 a).wf = true) : ∃ n : Nat, a = n ∧ n < 65536 := by
  simp only [Lit.wf, Bool.and_eq_true, decide_eq_true_eq, show IntKind.u16.min = 0 from rfl, show IntKind.u16.max = 65535 from rfl] at w
  exact ⟨a.toNat, by omega, by omega⟩
theorem app_lt {bs cs : List Nat} (hb : ∀ x ∈ bs, x < 256) (hc : ∀ x ∈ cs, x < 256) : ∀ x ∈ bs ++ cs, x < 256 := by
  intro x hx
  rcases List.mem_append.1 hx with h | h
  · exact hb x h
  · exact hc x h
theorem join_c {A B : Option Addr} {c d n m : Nat} {bs cs : List Nat} {w : World} (hn : bs.length = n) (hm : cs.length = m) (h : RdB w A c bs) (k : RdB w B d cs) (hl : bs.length ≤ 1000000) (kl : cs.length ≤ 1000000) :
    Calls Try.prog 26 #[.slice A n c, .slice B m d] w (PutR (bs ++ cs) w) := by
  subst hn hm
  exact join_p A B c d bs cs w h k hl kl
theorem take_c {A : Option Addr} {c n : Nat} {bs : List Nat} {w : World} (hn : bs.length = n) (h : RdB w A c bs) (hlt : ∀ x ∈ bs, x < 256) {g : Cod.Got Int} (hg : Cod.tk bs = g) : Calls Try.prog 10 #[.slice A n c] w (TakP g w) := by
  subst hn hg
  exact takeInt_p A c bs w h hlt
theorem takeL_c {A : Option Addr} {c n : Nat} {bs : List Nat} {w : World} (hn : bs.length = n) (h : RdB w A c bs) (hlt : ∀ x ∈ bs, x < 256) (hl : bs.length ≤ 1000000) {g : Cod.Got (List Int)} (hg : Cod.tkL bs = g) : Calls Try.prog 16 #[.slice A n c] w (TakLP g w) := by
  subst hn hg
  exact takeInts_p A c bs w h hlt hl
theorem takeW_c {A : Option Addr} {c n : Nat} {bs : List Nat} {w : World} (hn : bs.length = n) (h : RdB w A c bs) (hlt : ∀ x ∈ bs, x < 256) (hl : bs.length ≤ 1000000) {g : Cod.Got (List (List Int))} (hg : Cod.tkW bs = g) : Calls Try.prog 18 #[.slice A n c] w (TakWP g w) := by
  subst hn hg
  exact takeWords_p A c bs w h hlt hl
/-- what is taken when the err is k -/
theorem take_e {A : Option Addr} {c n : Nat} {bs : List Nat} {w : World} (hn : bs.length = n) (h : RdB w A c bs) (hlt : ∀ x ∈ bs, x < 256) {k : Int} (hg : (Cod.tk bs).err = k) : Calls Try.prog 10 #[.slice A n c] w fun e w' => ∃ a b, e = .returned (.tuple #[.int .i64 a, .int .i64 b, .int .i64 k]) ∧ Below w.heap.size w w' := by
  subst hn hg
  exact (takeInt_p A c bs w h hlt).mono fun e w' ⟨h1, h2⟩ => ⟨_, _, h1, h2⟩
theorem takeL_e {A : Option Addr} {c n : Nat} {bs : List Nat} {w : World} (hn : bs.length = n) (h : RdB w A c bs) (hlt : ∀ x ∈ bs, x < 256) (hl : bs.length ≤ 1000000) {k : Int} (hg : (Cod.tkL bs).err = k) : Calls Try.prog 16 #[.slice A n c] w fun e w' => ∃ a b, e = .returned (.tuple #[a, .int .i64 b, .int .i64 k]) ∧ Below w.heap.size w w' := by
  subst hn hg
  exact (takeInts_p A c bs w h hlt hl).mono fun e w' ⟨_, _, h1, _, _, h2⟩ => ⟨_, _, h1, h2⟩
theorem takeW_e {A : Option Addr} {c n : Nat} {bs : List Nat} {w : World} (hn : bs.length = n) (h : RdB w A c bs) (hlt : ∀ x ∈ bs, x < 256) (hl : bs.length ≤ 1000000) {k : Int} (hg : (Cod.tkW bs).err = k) : Calls Try.prog 18 #[.slice A n c] w fun e w' => ∃ a b, e = .returned (.tuple #[a, .int .i64 b, .int .i64 k]) ∧ Below w.heap.size w w' := by
  subst hn hg
  exact (takeWords_p A c bs w h hlt hl).mono fun e w' ⟨_, _, h1, _, _, h2⟩ => ⟨_, _, h1, h2⟩
theorem run_cut {w0 : World} {A : Option Addr} {c : Nat} {bs : List Nat} {n : Nat} (hn : bs.length = n) (h : RdB w0 A c bs) (k : Nat) (hp : 1 ≤ n) :
    ∃ A' c', (∀ w : World, (Instr.slice 22 (.slice A n c) none (some (.int .i64 ((k : Int) % (n : Int)))) none).run Try.prog w = .ok (.slice A' (k % n) c') w) ∧ RdB w0 A' c' (bs.take (k % n)) ∧ (bs.take (k % n)).length = k % n ∧ k % n < n := by
  subst hn
  have hlt := Nat.mod_lt k (y := bs.length) (by omega)
  obtain ⟨A', c', h1, h2⟩ := run_sub_h (P := Try.prog) 22 5 Try.underlying22 (by kernel_rfl) h (k % bs.length) (by omega)
  refine ⟨A', c', fun w => ?_, h2, by simp; omega, hlt⟩
  have := h1 w
  rwa [Int.natCast_emod] at this
set_option maxRecDepth 100000 in
set_option maxHeartbeats 8000000 in
theorem codecTrips_walk (w : World) (n : Int) (A1 : Option Addr) (c1 : Nat) (xs : List Int) (A2 : Option Addr) (c2 : Nat) (xss : List (List Int)) (A3 : Option Addr) (c3 : Nat) (rest : List Nat) (a4 : Int)
    (w0 : (Lit.int .i64 n).wf = true) (r1 : Rd w A1 xs) (w1 : Wf .i64 xs) (r2 : RdM .i64 w A2 xss) (w2 : WfM .i64 xss) (r3 : RdB w A3 c3 rest) (w3 : ∀ x ∈ rest, x < 256) (w4 : (Lit.int .u16 a4).wf = true) :
    Calls Try.prog 5 #[.agg #[.int .i64 n, .slice A1 xs.length c1, .slice A2 xss.length c2, .slice A3 rest.length c3, .int .u16 a4]] w fun e w' => e = .returned (.bool true) ∧ Below w.heap.size w w' := by
  have hm1 := r1.1
  have hm2 := r2.1
  have hm3 := r3.len
  obtain ⟨cut, rfl, hcut⟩ := wf16 w4
  have hbx0 : Below w.heap.size w (w.alloc (.cells #[.int .i64 n, .slice A1 xs.length c1, .slice A2 xss.length c2, .slice A3 rest.length c3, .int .u16 cut] 50)) := (Below.refl _ _).alloc (Nat.le_refl _) _
  by_cases hl : (100 : Int) < xs.length
  · clear r1 r2 r3 w0 w1 w2 w3 w4
    go_enter Try.func5, Try.ntmps5
    go_wp2_with fail
    go_quiet (fail)
    have hbx := below_drewN' hbx0 nq
    generalize (w.alloc (.cells #[.int .i64 n, .slice A1 xs.length c1, .slice A2 xss.length c2, .slice A3 rest.length c3, .int .u16 cut] 50)).drewN nq = wx at hbx ⊢
    go_wp2_with (go_at_call 9; refine (awake_p _).mono ?_; rintro e w' ⟨rfl, hb⟩)
    go_ret
    exact ⟨rfl, below_seq hbx hb⟩
  by_cases hg : greatB xss 20 20 = true
  · have HG := Lib.hid (fun wx hb => great_yes (w := wx) (c := c2) (r2.keep hb) (by omega) hg)
    clear r1 r2 r3 w0 w1 w2 w3 w4 hg
    go_enter Try.func5, Try.ntmps5
    go_wp2_with fail
    go_quiet (fail)
    have hbx := below_drewN' hbx0 nq
    generalize (w.alloc (.cells #[.int .i64 n, .slice A1 xs.length c1, .slice A2 xss.length c2, .slice A3 rest.length c3, .int .u16 cut] 50)).drewN nq = wx at hbx ⊢
    go_wp2_with fail
    refine (HG.out wx hbx).mono ?_
    rintro e w1 ⟨rfl, rfl⟩
    go_wp2_with (go_at_call 9; refine (awake_p _).mono ?_; rintro e w' ⟨rfl, hb⟩)
    go_ret
    exact ⟨rfl, below_seq hbx hb⟩
  have hg : greatB xss 20 20 = false := by simpa using hg
  have HG := Lib.hid (fun wx hb => great_no (w := wx) (c := c2) (r2.keep hb) (by omega) hg)
  by_cases hl3 : (100 : Int) < rest.length
  · clear r1 r2 r3 w0 w1 w2 w3 w4 hg
    go_enter Try.func5, Try.ntmps5
    go_wp2_with fail
    go_quiet (fail)
    have hbx := below_drewN' hbx0 nq
    generalize (w.alloc (.cells #[.int .i64 n, .slice A1 xs.length c1, .slice A2 xss.length c2, .slice A3 rest.length c3, .int .u16 cut] 50)).drewN nq = wx at hbx ⊢
    go_wp2_with fail
    refine (HG.out wx hbx).mono ?_
    rintro e w1 ⟨rfl, rfl⟩
    go_wp2_with (go_at_call 9; refine (awake_p _).mono ?_; rintro e w' ⟨rfl, hb⟩)
    go_ret
    exact ⟨rfl, below_seq hbx hb⟩
  obtain ⟨gl, gx⟩ := great_facts hg
  have hi := wf64 w0
  obtain ⟨i1, i2⟩ := hi
  have HX := Lib.hid (wfl64 w1)
  have hy20 : ∀ x ∈ xss, x.length ≤ 20 ∧ ∀ y ∈ x, Cod.I64 y := fun x hx => ⟨gx x hx, wfl64 (w2 x hx).1⟩
  have hy : ∀ x ∈ xss, x.length ≤ 1000 ∧ ∀ y ∈ x, Cod.I64 y := fun x hx => ⟨by have := gx x hx; omega, wfl64 (w2 x hx).1⟩
  have hy63 : ∀ x ∈ xss, x.length ≤ 9223372036854775807 ∧ ∀ y ∈ x, Cod.I64 y := fun x hx => ⟨by have := gx x hx; omega, wfl64 (w2 x hx).1⟩
  have HY := Lib.hid hy
  have W3 := Lib.hid w3
  have T1 := Lib.hid (Cod.tk_put i1 i2 rest)
  have T2 := Lib.hid (Cod.tkL_put xs (by omega) HX.out rest)
  have T3 := Lib.hid (Cod.tkW_put xss (by omega) hy63 rest)
  have C1 := Lib.hid (Cod.put_cut i1 i2)
  have C2 := Lib.hid (Cod.tkL_cut xs (by omega) HX.out)
  have C3 := Lib.hid (Cod.tkW_cut xss (by omega) hy63)
  have L1 := Lib.hid (Cod.put_lt n)
  have L2 := Lib.hid (Cod.putL_lt xs)
  have L3 := Lib.hid (Cod.putW_lt xss)
  have l1 := Cod.put_le ⟨i1, i2⟩
  have l2 := Cod.putL_le' xs HX.out (by omega)
  have l3 := Cod.putW_le20 xss hy20 (by omega)
  have g1 := Cod.put_len1 n
  have g2 := Cod.putL_len1 xs
  have g3 := Cod.putW_len1 xss
  have R1 := Lib.hid r1
  have R2 := Lib.hid r2
  have R3 := Lib.hid r3
  obtain ⟨pa, hpa⟩ : ∃ pa, pa = Cod.put n := ⟨_, rfl⟩
  obtain ⟨pb, hpb⟩ : ∃ pb, pb = Cod.putL xs := ⟨_, rfl⟩
  obtain ⟨pc, hpc⟩ : ∃ pc, pc = Cod.putW xss := ⟨_, rfl⟩
  have PA := Lib.hid (fun w => putInt_p n w i1 i2)
  have PB := Lib.hid (fun (w' : World) (hb : Below w.heap.size w w') => putInts_p A1 c1 xs w' (R1.out.keep hb) HX.out (by omega))
  have PC := Lib.hid (fun (w' : World) (hb : Below w.heap.size w w') => putWords_p A2 c2 xss w' (R2.out.keep hb) HY.out (by omega))
  rw [← hpa] at T1 C1 L1 l1 g1 PA
  rw [← hpb] at T2 C2 L2 l2 g2 PB
  rw [← hpc] at T3 C3 L3 l3 g3 PC
  obtain ⟨na, hna⟩ : ∃ na, pa.length = na := ⟨_, rfl⟩
  obtain ⟨nb, hnb⟩ : ∃ nb, pb.length = nb := ⟨_, rfl⟩
  obtain ⟨nc, hnc⟩ : ∃ nc, pc.length = nc := ⟨_, rfl⟩
  obtain ⟨nr, hnr⟩ : ∃ nr, rest.length = nr := ⟨_, rfl⟩
  have HNA := Lib.hid hna
  have HNB := Lib.hid hnb
  have HNC := Lib.hid hnc
  have HNR := Lib.hid hnr
  rw [hna] at T1 C1 l1 g1
  rw [hnb] at T2 C2 l2 g2
  rw [hnc] at T3 C3 l3 g3
  rw [hnr] at hm3 hl3 hbx0 ⊢
  have PA2 : Hid (∀ w, Calls Try.prog 13 #[.int .i64 n] w fun e w' => ∃ A c, e = .returned (.slice A na c) ∧ w'.ownsRow w.heap.size 5 1 (.slice A na c) na (byv pa) ∧ Below w.heap.size w w') := by
    have := PA.out; unfold PutR at this; rw [hna] at this; exact Lib.hid this
  have PB2 : Hid (∀ w', Below w.heap.size w w' → Calls Try.prog 20 #[.slice A1 xs.length c1] w' fun e w2 => ∃ A c, e = .returned (.slice A nb c) ∧ w2.ownsRow w'.heap.size 5 1 (.slice A nb c) nb (byv pb) ∧ Below w'.heap.size w' w2) := by
    have := PB.out; unfold PutR at this; rw [hnb] at this; exact Lib.hid this
  have PC2 : Hid (∀ w', Below w.heap.size w w' → Calls Try.prog 22 #[.slice A2 xss.length c2] w' fun e w2 => ∃ A c, e = .returned (.slice A nc c) ∧ w2.ownsRow w'.heap.size 5 1 (.slice A nc c) nc (byv pc) ∧ Below w'.heap.size w' w2) := by
    have := PC.out; unfold PutR at this; rw [hnc] at this; exact Lib.hid this
  have ja : (pa ++ rest).length = na + nr := by rw [List.length_append, hna, hnr]
  have jb : (pb ++ rest).length = nb + nr := by rw [List.length_append, hnb, hnr]
  have jc : (pc ++ rest).length = nc + nr := by rw [List.length_append, hnc, hnr]
  have JA := Lib.hid ja
  have JB := Lib.hid jb
  have JC := Lib.hid jc
  clear hna hnb hnc hnr ja jb jc hpa hpb hpc r1 r2 r3 w0 w1 w2 w3 w4 hg hy hy20 hy63 gx PA PB PC
  have z1 : ((na : Int) == 0) = false := by simp only [beq_eq_false_iff_ne]; omega
  have z2 : ((nb : Int) == 0) = false := by simp only [beq_eq_false_iff_ne]; omega
  have z3 : ((nc : Int) == 0) = false := by simp only [beq_eq_false_iff_ne]; omega
  go_enter Try.func5, Try.ntmps5
  go_wp2_with fail
  go_quiet (fail)
  have hbx := below_drewN' hbx0 nq
  generalize (w.alloc (.cells #[.int .i64 n, .slice A1 xs.length c1, .slice A2 xss.length c2, .slice A3 nr c3, .int .u16 cut] 50)).drewN nq = wx at hbx ⊢
  have bel_0 := Lib.hid hbx
  clear hbx hbx0
  go_wp2_with fail
  refine (HG.out wx bel_0.out).mono ?_
  rintro e w1 ⟨rfl, rfl⟩
  go_wp2_with fail
  refine (PA2.out _).mono ?_
  rintro e w1 ⟨Ba, da, rfl, ho, hb⟩
  have bel_1 := Lib.hid (below_seq bel_0.out hb)
  clear bel_0
  have oa_1 := Lib.hid (ho)
  clear hb
  clear ho
  go_wp2_with fail
  refine (PB2.out _ bel_1.out).mono ?_
  rintro e w2 ⟨Bb, db, rfl, ho, hb⟩
  have bel_2 := Lib.hid (below_seq bel_1.out hb)
  clear bel_1
  have oa_2 := Lib.hid (own_keep oa_1.out hb)
  clear oa_1
  have ob_2 := Lib.hid (ho)
  clear hb
  clear ho
  go_wp2_with fail
  refine (PC2.out _ bel_2.out).mono ?_
  rintro e w3 ⟨Bc, dc, rfl, ho, hb⟩
  have bel_3 := Lib.hid (below_seq bel_2.out hb)
  clear bel_2
  have oa_3 := Lib.hid (own_keep oa_2.out hb)
  clear oa_2
  have ob_3 := Lib.hid (own_keep ob_2.out hb)
  clear ob_2
  have oc_3 := Lib.hid (ho)
  clear hb
  clear ho
  go_wp2_with fail
  refine (join_c HNA.out HNR.out (own_rdb oa_3.out (by omega)).2 (R3.out.keep bel_3.out) (by have := HNA.out; omega) (by have := HNR.out; omega)).mono ?_
  rintro e wj1 ⟨Bj, dj, rfl, ho, hb⟩
  have bel_4 := Lib.hid (below_seq bel_3.out hb)
  clear bel_3
  have oa_4 := Lib.hid (own_keep oa_3.out hb)
  clear oa_3
  have ob_4 := Lib.hid (own_keep ob_3.out hb)
  clear ob_3
  have oc_4 := Lib.hid (own_keep oc_3.out hb)
  clear oc_3
  have oj_4 := Lib.hid (ho)
  clear hb
  clear ho
  rw [JA.out] at oj_4 ⊢
  go_wp2_with fail
  refine (take_c JA.out (own_rdb oj_4.out (by omega)).2 (app_lt L1.out W3.out) T1.out).mono ?_
  rintro e wt1 ⟨rfl, hb⟩
  clear oj_4
  have bel_5 := Lib.hid (below_seq bel_4.out hb)
  clear bel_4
  have oa_5 := Lib.hid (own_keep oa_4.out hb)
  clear oa_4
  have ob_5 := Lib.hid (own_keep ob_4.out hb)
  clear ob_4
  have oc_5 := Lib.hid (own_keep oc_4.out hb)
  clear oc_4
  clear hb
  go_wp2_with fail
  refine (join_c HNB.out HNR.out (own_rdb ob_5.out (by omega)).2 (R3.out.keep bel_5.out) (by have := HNB.out; omega) (by have := HNR.out; omega)).mono ?_
  rintro e wj2 ⟨Bj, dj, rfl, ho, hb⟩
  have bel_6 := Lib.hid (below_seq bel_5.out hb)
  clear bel_5
  have oa_6 := Lib.hid (own_keep oa_5.out hb)
  clear oa_5
  have ob_6 := Lib.hid (own_keep ob_5.out hb)
  clear ob_5
  have oc_6 := Lib.hid (own_keep oc_5.out hb)
  clear oc_5
  have oj_6 := Lib.hid (ho)
  clear hb
  clear ho
  rw [JB.out] at oj_6 ⊢
  go_wp2_with fail
  refine (takeL_c JB.out (own_rdb oj_6.out (by omega)).2 (app_lt L2.out W3.out) (by have := JB.out; omega) T2.out).mono ?_
  rintro e wt2 ⟨Bl, dl, rfl, hr, _, hb⟩
  clear oj_6
  have bel_7 := Lib.hid (below_seq bel_6.out hb)
  clear bel_6
  have oa_7 := Lib.hid (own_keep oa_6.out hb)
  clear oa_6
  have ob_7 := Lib.hid (own_keep ob_6.out hb)
  clear ob_6
  have oc_7 := Lib.hid (own_keep oc_6.out hb)
  clear oc_6
  have rl_7 := Lib.hid (hr)
  clear hb
  clear hr
  go_wp2_with fail
  refine (join_c HNC.out HNR.out (own_rdb oc_7.out (by omega)).2 (R3.out.keep bel_7.out) (by have := HNC.out; omega) (by have := HNR.out; omega)).mono ?_
  rintro e wj3 ⟨Bj, dj, rfl, ho, hb⟩
  have bel_8 := Lib.hid (below_seq bel_7.out hb)
  clear bel_7
  have oa_8 := Lib.hid (own_keep oa_7.out hb)
  clear oa_7
  have ob_8 := Lib.hid (own_keep ob_7.out hb)
  clear ob_7
  have oc_8 := Lib.hid (own_keep oc_7.out hb)
  clear oc_7
  have rl_8 := Lib.hid (rl_7.out.keep hb)
  clear rl_7
  have oj_8 := Lib.hid (ho)
  clear hb
  clear ho
  rw [JC.out] at oj_8 ⊢
  go_wp2_with fail
  refine (takeW_c JC.out (own_rdb oj_8.out (by omega)).2 (app_lt L3.out W3.out) (by have := JC.out; omega) T3.out).mono ?_
  rintro e wt3 ⟨Bw, dw, rfl, hr, _, hb⟩
  clear oj_8
  have bel_9 := Lib.hid (below_seq bel_8.out hb)
  clear bel_8
  have oa_9 := Lib.hid (own_keep oa_8.out hb)
  clear oa_8
  have ob_9 := Lib.hid (own_keep ob_8.out hb)
  clear ob_8
  have oc_9 := Lib.hid (own_keep oc_8.out hb)
  clear oc_8
  have rl_9 := Lib.hid (rl_8.out.keep hb)
  clear rl_8
  have rw__9 := Lib.hid (hr)
  clear hb
  clear hr
  go_wp2_with fail
  refine (same_b rfl rl_9.out (R1.out.keep bel_9.out)).mono ?_
  rintro e ws1 ⟨rfl, hb⟩
  clear rl_9
  have bel_10 := Lib.hid (below_seq bel_9.out hb)
  clear bel_9
  have oa_10 := Lib.hid (own_keep oa_9.out hb)
  clear oa_9
  have ob_10 := Lib.hid (own_keep ob_9.out hb)
  clear ob_9
  have oc_10 := Lib.hid (own_keep oc_9.out hb)
  clear oc_9
  have rw__10 := Lib.hid (rw__9.out.keep hb)
  clear rw__9
  clear hb
  go_wp2_with fail
  refine (sameWords_b rfl rw__10.out (R2.out.keep bel_10.out)).mono ?_
  rintro e ws2 ⟨rfl, hb⟩
  clear rw__10
  have bel_11 := Lib.hid (below_seq bel_10.out hb)
  clear bel_10
  have oa_11 := Lib.hid (own_keep oa_10.out hb)
  clear oa_10
  have ob_11 := Lib.hid (own_keep ob_10.out hb)
  clear ob_10
  have oc_11 := Lib.hid (own_keep oc_10.out hb)
  clear oc_10
  clear hb
  -- the cuts
  obtain ⟨Bq1, dq1, hsl1, hq1, lq1, mq1⟩ := run_cut HNA.out (own_rdb oa_11.out (by omega)).2 cut g1
  have HQ1 := Lib.hid hq1
  have LQ1 := Lib.hid lq1
  have MQ1 := Lib.hid mq1
  clear hq1 lq1 mq1
  go_wp2_with fail
  refine (take_e LQ1.out HQ1.out (fun x hx => L1.out x (List.mem_of_mem_take hx)) (C1.out _ MQ1.out)).mono ?_
  rintro e wc1 ⟨u1, v1, rfl, hb⟩
  have bel_12 := Lib.hid (below_seq bel_11.out hb)
  clear bel_11
  have oa_12 := Lib.hid (own_keep oa_11.out hb)
  clear oa_11
  have ob_12 := Lib.hid (own_keep ob_11.out hb)
  clear ob_11
  have oc_12 := Lib.hid (own_keep oc_11.out hb)
  clear oc_11
  clear hb
  clear hsl1
  obtain ⟨Bq2, dq2, hsl2, hq2, lq2, mq2⟩ := run_cut HNB.out (own_rdb ob_12.out (by omega)).2 cut g2
  have HQ2 := Lib.hid hq2
  have LQ2 := Lib.hid lq2
  have MQ2 := Lib.hid mq2
  clear hq2 lq2 mq2
  go_wp2_with fail
  refine (takeL_e LQ2.out HQ2.out (fun x hx => L2.out x (List.mem_of_mem_take hx)) (by have h1 := LQ2.out; have h2 := MQ2.out; omega) (C2.out _ MQ2.out)).mono ?_
  rintro e wc2 ⟨u2, v2, rfl, hb⟩
  have bel_13 := Lib.hid (below_seq bel_12.out hb)
  clear bel_12
  have oa_13 := Lib.hid (own_keep oa_12.out hb)
  clear oa_12
  have ob_13 := Lib.hid (own_keep ob_12.out hb)
  clear ob_12
  have oc_13 := Lib.hid (own_keep oc_12.out hb)
  clear oc_12
  clear hb
  clear hsl2
  obtain ⟨Bq3, dq3, hsl3, hq3, lq3, mq3⟩ := run_cut HNC.out (own_rdb oc_13.out (by omega)).2 cut g3
  have HQ3 := Lib.hid hq3
  have LQ3 := Lib.hid lq3
  have MQ3 := Lib.hid mq3
  clear hq3 lq3 mq3
  go_wp2_with fail
  refine (takeW_e LQ3.out HQ3.out (fun x hx => L3.out x (List.mem_of_mem_take hx)) (by have h1 := LQ3.out; have h2 := MQ3.out; omega) (C3.out _ MQ3.out)).mono ?_
  rintro e wc3 ⟨u3, v3, rfl, hb⟩
  have bel_14 := Lib.hid (below_seq bel_13.out hb)
  clear bel_13
  have oa_14 := Lib.hid (own_keep oa_13.out hb)
  clear oa_13
  have ob_14 := Lib.hid (own_keep ob_13.out hb)
  clear ob_13
  have oc_14 := Lib.hid (own_keep oc_13.out hb)
  clear oc_13
  clear hb
  clear hsl3
  go_wp2_with fail
  refine (awake_p _).mono ?_
  rintro e wz ⟨rfl, hb⟩
  have bel_15 := Lib.hid (below_seq bel_14.out hb)
  clear bel_14
  have oa_15 := Lib.hid (own_keep oa_14.out hb)
  clear oa_14
  have ob_15 := Lib.hid (own_keep ob_14.out hb)
  clear ob_14
  have oc_15 := Lib.hid (own_keep oc_14.out hb)
  clear oc_14
  clear hb
  go_wp2_with fail
  go_ret
  exact ⟨rfl, bel_15.out⟩
end Go.Proofs.Ytepeamhoajlniaa
