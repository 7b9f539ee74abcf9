/- The walk of CodecLists. -/
import Derived.Test.YtepeamhoajlniaaLaw05
namespace Go.Proofs.Ytepeamhoajlniaa
open Go.RowKit

theorem wfl64 {xs : List Int} (h : Wf .i64 xs) : ∀ x ∈ xs, Cod.I64 x := fun x hx => wf64 (h x hx)
namespace Cod
theorem putL_lt (l : List Int) : ∀ x ∈ putL l, x < 256 := by
  intro x hx
  unfold putL cat at hx
  rw [List.mem_append, List.mem_flatMap] at hx
  rcases hx with hx | ⟨y, _, hx⟩
  · exact put_lt _ x hx
  · exact put_lt _ x hx
theorem putW_lt (l : List (List Int)) : ∀ x ∈ putW l, x < 256 := by
  intro x hx
  unfold putW cat at hx
  rw [List.mem_append, List.mem_flatMap] at hx
  rcases hx with hx | ⟨y, _, hx⟩
  · exact put_lt _ x hx
  · exact putL_lt _ x hx
theorem putW_le (l : List (List Int)) (h : ∀ x ∈ l, x.length ≤ 1000 ∧ ∀ y ∈ x, I64 y) (hl : l.length ≤ 1000) : (putW l).length ≤ 10010010 := by
  have := upto_le putL l l.length 10010 (fun x hx => putL_le' x (h x hx).2 (h x hx).1) (by omega)
  rw [upto_all] at this
  have h2 : (putW l).length ≤ 10 + 10010 * l.length := this
  omega
end Cod
theorem great_no {A : Option Addr} {c : Nat} {xss : List (List Int)} {a b : Nat} {w : World} (ha : RdM .i64 w A xss) (h1 : a ≤ 1000) (h : greatB xss a b = false) :
    Calls Try.prog 15 #[.slice A xss.length c, .int .i64 a, .int .i64 b] w fun e w' => e = .returned (.bool false) ∧ w = w' :=
  (great_any A c xss a b w ha h1).mono fun _ _ ⟨he, hw⟩ => ⟨by rw [he, h], hw⟩
theorem great_yes {A : Option Addr} {c : Nat} {xss : List (List Int)} {a b : Nat} {w : World} (ha : RdM .i64 w A xss) (h1 : a ≤ 1000) (h : greatB xss a b = true) :
    Calls Try.prog 15 #[.slice A xss.length c, .int .i64 a, .int .i64 b] w fun e w' => e = .returned (.bool true) ∧ w = w' :=
  (great_any A c xss a b w ha h1).mono fun _ _ ⟨he, hw⟩ => ⟨by rw [he, h], hw⟩
theorem great_facts {xss : List (List Int)} {a b : Nat} (h : greatB xss a b = false) : xss.length ≤ a ∧ ∀ x ∈ xss, x.length ≤ b := by
  unfold greatB at h
  simpa using h
set_option maxRecDepth 100000 in
set_option maxHeartbeats 4000000 in
theorem codecLists_walk (w : World) (A0 : Option Addr) (c0 : Nat) (xs : List Int) (A1 : Option Addr) (c1 : Nat) (xss : List (List Int)) (A2 : Option Addr) (c2 : Nat) (bs : List Nat)
    (r0 : Rd w A0 xs) (w0 : Wf .i64 xs) (r1 : RdM .i64 w A1 xss) (w1 : WfM .i64 xss) (r2 : RdB w A2 c2 bs) (w2 : ∀ x ∈ bs, x < 256) :
    Calls Try.prog 4 #[.slice A0 xs.length c0, .slice A1 xss.length c1, .slice A2 bs.length c2] w fun e w' => e = .returned (.bool true) ∧ Below w.heap.size w w' := by
  have hm0 := r0.1
  have hm1 := r1.1
  have hm2 := r2.len
  by_cases hl : (200 : Int) < xs.length
  · have hd : decide ((200 : Int) < xs.length) = true := by simpa using hl
    clear r0 r1 r2 w0 w1 w2
    go_enter Try.func4, Try.ntmps4
    go_wp2_with (go_at_call 9; refine (awake_p _).mono ?_; rintro e w' ⟨rfl, hb⟩)
    go_ret
    exact ⟨rfl, hb⟩
  by_cases hg : greatB xss 40 40 = true
  · have HG := Lib.hid (great_yes (c := c1) r1 (by omega) hg)
    clear r0 r1 r2 w0 w1 w2 hg
    go_enter Try.func4, Try.ntmps4
    go_wp2_with fail
    refine HG.out.mono ?_
    rintro e w1 ⟨rfl, rfl⟩
    go_wp2_with (go_at_call 9; refine (awake_p _).mono ?_; rintro e w' ⟨rfl, hb⟩)
    go_ret
    exact ⟨rfl, hb⟩
  have hg : greatB xss 40 40 = false := by simpa using hg
  have HG := Lib.hid (great_no (c := c1) r1 (by omega) hg)
  by_cases hl3 : (1000 : Int) < bs.length
  · clear r0 r1 r2 w0 w1 w2 hg
    go_enter Try.func4, Try.ntmps4
    go_wp2_with fail
    refine HG.out.mono ?_
    rintro e w1 ⟨rfl, rfl⟩
    go_wp2_with (go_at_call 9; refine (awake_p _).mono ?_; rintro e w' ⟨rfl, hb⟩)
    go_ret
    exact ⟨rfl, hb⟩
  obtain ⟨gl, gx⟩ := great_facts hg
  have HX := Lib.hid (wfl64 w0)
  have hy : ∀ x ∈ xss, x.length ≤ 1000 ∧ ∀ y ∈ x, Cod.I64 y := fun x hx => ⟨by have := gx x hx; omega, wfl64 (w1 x hx).1⟩
  have HY := Lib.hid hy
  have HW2 := Lib.hid w2
  have hpl := Cod.putL_le' xs HX.out (by omega)
  have hpw := Cod.putW_le xss hy (by omega)
  have R0 := Lib.hid r0
  have R1 := Lib.hid r1
  have R2 := Lib.hid r2
  have HP := Lib.hid (takeInts_p A2 c2 bs w r2 w2 (by omega))
  have HQ := Lib.hid (fun w' hb => takeInts_r A2 c2 bs w' (r2.keep hb) w2 (by omega))
  have HP2 := Lib.hid (fun w' hb => takeWords_p A2 c2 bs w' (r2.keep hb) w2 (by omega))
  have HQ2 := Lib.hid (fun w' hb => takeWords_r A2 c2 bs w' (r2.keep hb) w2 (by omega))
  obtain ⟨t, hT⟩ : ∃ t, t = Cod.tkL bs := ⟨_, rfl⟩
  obtain ⟨u, hU⟩ : ∃ u, u = Cod.tkW bs := ⟨_, rfl⟩
  rw [← hT] at HP HQ
  rw [← hU] at HP2 HQ2
  clear hT hU r0 r1 r2 w0 w1 w2 hg hy gx
  go_enter Try.func4, Try.ntmps4
  go_wp2_with fail
  refine HG.out.mono ?_
  rintro e w1 ⟨rfl, rfl⟩
  go_wp2_with fail
  refine HP.out.mono ?_
  rintro e w1 ⟨B1, d1, rfl, hr1, hn1, hb1⟩
  have HB1 := Lib.hid hb1
  have RA1 := Lib.hid hr1
  clear hb1 hr1 HP HG
  go_wp2_with fail
  refine (HQ.out w1 HB1.out).mono ?_
  rintro e w2 ⟨B2, d2, rfl, ho2, hb2⟩
  have HB2 := Lib.hid (below_seq HB1.out hb2)
  have RA2 := Lib.hid (RA1.out.keep hb2)
  have RB2 := Lib.hid (own_rd ho2 (by omega)).2
  clear hb2 ho2 RA1 HQ HB1
  go_wp2_with fail
  refine (HP2.out w2 HB2.out).mono ?_
  rintro e w3 ⟨B3, d3, rfl, hr3, hn3, hb3⟩
  have HB3 := Lib.hid (below_seq HB2.out hb3)
  have RA3 := Lib.hid (RA2.out.keep hb3)
  have RB3 := Lib.hid (RB2.out.keep hb3)
  have RC3 := Lib.hid hr3
  clear hb3 hr3 RA2 RB2 HP2 HB2
  go_wp2_with fail
  refine (HQ2.out w3 HB3.out).mono ?_
  rintro e w4 ⟨B4, d4, rfl, ho4, hrows, hb4⟩
  have HB4 := Lib.hid (below_seq HB3.out hb4)
  have RA4 := Lib.hid (RA3.out.keep hb4)
  have RB4 := Lib.hid (RB3.out.keep hb4)
  have RC4 := Lib.hid (RC3.out.keep hb4)
  have RD4 := Lib.hid (OwnM.rd ho4 (by omega) (fun i hi => Nat.le_trans (hrows i hi) (by omega)))
  clear hb4 ho4 hrows RA3 RB3 RC3 HQ2 HB3
  go_wp2_with fail
  refine (putInts_p A0 c0 xs _ (R0.out.keep HB4.out) HX.out (by omega)).mono ?_
  rintro e w5 ⟨A5, e5, rfl, ho5, hb5⟩
  have HB5 := Lib.hid (below_seq HB4.out hb5)
  have O5 := Lib.hid ho5
  have RA5 := Lib.hid (RA4.out.keep hb5)
  have RB5 := Lib.hid (RB4.out.keep hb5)
  have RC5 := Lib.hid (RC4.out.keep hb5)
  have RD5 := Lib.hid (RD4.out.keep hb5)
  clear hb5 ho5 RA4 RB4 RC4 RD4 HB4
  go_wp2_with fail
  refine (putInts_r A0 c0 xs _ (R0.out.keep HB5.out) HX.out (by omega)).mono ?_
  rintro e w6 ⟨A6, e6, rfl, ho6, hb6⟩
  have HB6 := Lib.hid (below_seq HB5.out hb6)
  have O5' := Lib.hid (own_keep O5.out hb6)
  have O6 := Lib.hid ho6
  have RA6 := Lib.hid (RA5.out.keep hb6)
  have RB6 := Lib.hid (RB5.out.keep hb6)
  have RC6 := Lib.hid (RC5.out.keep hb6)
  have RD6 := Lib.hid (RD5.out.keep hb6)
  clear hb6 ho6 RA5 RB5 RC5 RD5 HB5 O5
  go_wp2_with fail
  refine (sameBytes_own (bs := Cod.putL xs) (Cod.putL_lt xs) rfl (by omega) O5'.out O6.out).mono ?_
  rintro e w7 ⟨rfl, rfl⟩
  clear O5' O6
  go_wp2_with fail
  refine (putWords_p A1 c1 xss _ (R1.out.keep HB6.out) HY.out (by omega)).mono ?_
  rintro e w7 ⟨A7, e7, rfl, ho7, hb7⟩
  have HB7 := Lib.hid (below_seq HB6.out hb7)
  have O7 := Lib.hid ho7
  have RA7 := Lib.hid (RA6.out.keep hb7)
  have RB7 := Lib.hid (RB6.out.keep hb7)
  have RC7 := Lib.hid (RC6.out.keep hb7)
  have RD7 := Lib.hid (RD6.out.keep hb7)
  clear hb7 ho7 RA6 RB6 RC6 RD6 HB6
  go_wp2_with fail
  refine (putWords_r A1 c1 xss _ (R1.out.keep HB7.out) HY.out (by omega)).mono ?_
  rintro e w8 ⟨A8, e8, rfl, ho8, hb8⟩
  have HB8 := Lib.hid (below_seq HB7.out hb8)
  have O7' := Lib.hid (own_keep O7.out hb8)
  have O8 := Lib.hid ho8
  have RA8 := Lib.hid (RA7.out.keep hb8)
  have RB8 := Lib.hid (RB7.out.keep hb8)
  have RC8 := Lib.hid (RC7.out.keep hb8)
  have RD8 := Lib.hid (RD7.out.keep hb8)
  clear hb8 ho8 RA7 RB7 RC7 RD7 HB7 O7
  go_wp2_with fail
  refine (sameBytes_own (bs := Cod.putW xss) (Cod.putW_lt xss) rfl (by omega) O7'.out O8.out).mono ?_
  rintro e w9 ⟨rfl, rfl⟩
  clear O7' O8
  go_wp2_with fail
  refine (same_b rfl RA8.out RB8.out).mono ?_
  rintro e w9 ⟨rfl, hb9⟩
  have HB9 := Lib.hid (below_seq HB8.out hb9)
  have RC9 := Lib.hid (RC8.out.keep hb9)
  have RD9 := Lib.hid (RD8.out.keep hb9)
  clear hb9 RA8 RB8 RC8 RD8 HB8
  go_wp2_with fail
  refine (sameWords_b rfl RC9.out RD9.out).mono ?_
  rintro e w10 ⟨rfl, hb10⟩
  have HB10 := Lib.hid (below_seq HB9.out hb10)
  clear hb10 RC9 RD9 HB9
  go_wp2_with fail
  refine (awake_p _).mono ?_
  rintro e w11 ⟨rfl, hb11⟩
  have HB11 := Lib.hid (below_seq HB10.out hb11)
  clear hb11
  go_wp2_with fail
  go_ret
  exact ⟨rfl, HB11.out⟩
end Go.Proofs.Ytepeamhoajlniaa
