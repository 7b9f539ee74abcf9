/- The walk of CodecFrames. -/
import Derived.Test.YtepeamhoajlniaaLaw05b
namespace Go.Proofs.Ytepeamhoajlniaa
open Go.RowKit

namespace Cod
theorem opn_cont (b : List Nat) : (opn b).cont.length ≤ b.length ∧ ∀ x ∈ (opn b).cont, x ∈ b := by
  unfold opn
  split
  · simp
  · split
    · simp
    · split
      · simp
      · split
        · simp
        · split
          · refine ⟨?_, fun x hx => List.mem_of_mem_drop (List.mem_of_mem_take hx)⟩
            simp only [List.length_take, List.length_drop]; omega
          · simp
theorem opn_cont_lt {b : List Nat} (hb : ∀ x ∈ b, x < 256) : ∀ x ∈ (opn b).cont, x < 256 := fun x hx => hb x ((opn_cont b).2 x hx)
end Cod
set_option maxRecDepth 100000 in
set_option maxHeartbeats 4000000 in
theorem codecFrames_walk (w : World) (a0 : Int) (A1 : Option Addr) (c1 : Nat) (cs : List Nat) (A2 : Option Addr) (c2 : Nat) (bs : List Nat)
    (w0 : (Lit.int .i64 a0).wf = true) (r1 : RdB w A1 c1 cs) (w1 : ∀ x ∈ cs, x < 256) (r2 : RdB w A2 c2 bs) (w2 : ∀ x ∈ bs, x < 256) :
    Calls Try.prog 6 #[.int .i64 a0, .slice A1 cs.length c1, .slice A2 bs.length c2] w fun e w' => e = .returned (.bool true) ∧ Below w.heap.size w w' := by
  have hm1 := r1.len
  have hm2 := r2.len
  obtain ⟨i1, i2⟩ := wf64 w0
  by_cases hl1 : (600 : Int) < cs.length
  · clear r1 r2 w0 w1 w2
    go_enter Try.func6, Try.ntmps6
    go_wp2_with (go_at_call 9; refine (awake_p _).mono ?_; rintro e w' ⟨rfl, hb⟩)
    go_ret
    exact ⟨rfl, hb⟩
  by_cases hl2 : (600 : Int) < bs.length
  · clear r1 r2 w0 w1 w2
    go_enter Try.func6, Try.ntmps6
    go_wp2_with (go_at_call 9; refine (awake_p _).mono ?_; rintro e w' ⟨rfl, hb⟩)
    go_ret
    exact ⟨rfl, hb⟩
  have HP := Lib.hid (open_p A2 c2 bs w r2 w2 (by omega))
  have HQ := Lib.hid (fun w' hb => open_r A2 c2 bs w' (r2.keep hb) w2 (by omega))
  have R1 := Lib.hid r1
  have W1 := Lib.hid w1
  have hfl := Cod.seal_len a0 cs
  have hpl := Cod.put_le (n := cs.length) ⟨by omega, by omega⟩
  have hfl2 : (Cod.frm a0 cs).length ≤ 1000 := by omega
  have HF := Lib.hid (Cod.seal_lt a0 cs w1)
  have hcl := (Cod.opn_cont bs).1
  have HCL := Lib.hid (Cod.opn_cont_lt w2)
  obtain ⟨t, hT⟩ : ∃ t, t = Cod.opn bs := ⟨_, rfl⟩
  rw [← hT] at HP HQ hcl HCL
  clear hT r1 r2 w0 w1 w2 hfl hpl
  go_enter Try.func6, Try.ntmps6
  go_wp2_with fail
  refine HP.out.mono ?_
  rintro e w1 ⟨B1, d1, rfl, ho1, hb1⟩
  have HB1 := Lib.hid hb1
  have O1 := Lib.hid ho1
  clear hb1 ho1 HP
  go_wp2_with fail
  refine (HQ.out w1 HB1.out).mono ?_
  rintro e w2 ⟨B2, d2, rfl, ho2, hb2⟩
  have HB2 := Lib.hid (below_seq HB1.out hb2)
  have O1' := Lib.hid (own_keep O1.out hb2)
  have O2 := Lib.hid ho2
  clear hb2 ho2 HQ O1 HB1
  go_wp2_with fail
  refine (sum_p A1 c1 cs _ (R1.out.keep HB2.out) W1.out).mono ?_
  rintro e w3 ⟨rfl, rfl⟩
  go_wp2_with fail
  refine (sum_r A1 c1 cs _ (R1.out.keep HB2.out) W1.out).mono ?_
  rintro e w3 ⟨rfl, rfl⟩
  go_wp2_with fail
  refine (seal_p a0 A1 c1 cs _ (R1.out.keep HB2.out) W1.out (by omega) i1 i2).mono ?_
  rintro e w3 ⟨B3, d3, rfl, ho3, hb3⟩
  have HB3 := Lib.hid (below_seq HB2.out hb3)
  have O13 := Lib.hid (own_keep O1'.out hb3)
  have O23 := Lib.hid (own_keep O2.out hb3)
  have O33 := Lib.hid ho3
  clear hb3 ho3 O1' O2 HB2
  go_wp2_with fail
  refine (seal_r a0 A1 c1 cs _ (R1.out.keep HB3.out) W1.out (by omega) i1 i2).mono ?_
  rintro e w4 ⟨B4, d4, rfl, ho4, hb4⟩
  have HB4 := Lib.hid (below_seq HB3.out hb4)
  have O14 := Lib.hid (own_keep O13.out hb4)
  have O24 := Lib.hid (own_keep O23.out hb4)
  have O34 := Lib.hid (own_keep O33.out hb4)
  have O44 := Lib.hid ho4
  clear hb4 ho4 O13 O23 O33 HB3
  go_wp2_with fail
  refine (sameBytes_own (bs := Cod.frm a0 cs) HF.out rfl (by omega) O34.out O44.out).mono ?_
  rintro e w5 ⟨rfl, rfl⟩
  go_wp2_with fail
  refine (sameBytes_own (bs := t.cont) HCL.out rfl (by omega) O14.out O24.out).mono ?_
  rintro e w5 ⟨rfl, rfl⟩
  go_wp2_with fail
  refine (awake_p _).mono ?_
  rintro e w5 ⟨rfl, hb5⟩
  have HB5 := Lib.hid (below_seq HB4.out hb5)
  clear hb5
  go_wp2_with fail
  go_ret
  exact ⟨rfl, HB5.out⟩
end Go.Proofs.Ytepeamhoajlniaa
