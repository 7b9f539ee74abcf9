/- The walk of CodecNumbers. -/
import Derived.Test.YtepeamhoajlniaaAwk
namespace Go.Proofs.Ytepeamhoajlniaa
open Go.ChangeShapes Go.WideShapes Go.ChangeAt Go.RowKit

theorem leaf_by {H : Type} {enc : TypeId × Value → H} {P : Program} {W : World} {base : Nat} {spare : Nat → Bool} {held : Bool} {n : Nat} {t : TypeId} {c : Value} {y : DataW H × List MemPlace} {e : TypeId}
    (ht : P.underlying t = some (.slice e)) (he : P.underlying e = some (.int .u8)) (hc : P.cellsOf e = 1) (hsp : ∀ b, spare b = true)
    (h : DataW.trod enc P W base spare held n t [c] = some y) : ∃ A d bs, c = .slice A (bs : List Nat).length d ∧ RdB W A d bs ∧ ∀ x ∈ bs, x < 256 := by
  rcases open_ints ht he hc h with ⟨hcs, _⟩ | ⟨x, l, d, zs, hcs, _, hl, hm, hz, _, hcell, hwz⟩
  · exact ⟨none, 0, [], by simpa using hcs, RdB.nil (by omega), fun x hx => by cases hx⟩
  · have hz' : zs.length = d := by simpa [hsp] using hz
    unfold maxLen at hm
    have hwf : ∀ y ∈ zs, 0 ≤ y ∧ y < 256 := by
      intro y hy
      have h1 := hwz y hy
      simp only [Lit.wf, Bool.and_eq_true, decide_eq_true_eq, show IntKind.u8.min = 0 from rfl, show IntKind.u8.max = 255 from rfl] at h1
      omega
    have hlen : ((zs.take l).map Int.toNat).length = l := by simp; omega
    refine ⟨some x, d, (zs.take l).map Int.toNat, by rw [hlen]; simpa using hcs, ⟨by omega, by omega, fun _ => ⟨x, rfl, fun i hi => ?_⟩⟩, ?_⟩
    · rw [hcell i (by omega)]
      have hi' : i < zs.length := by omega
      have hn := hwf _ (List.getElem_mem hi')
      congr 2
      rw [List.getD_eq_getElem?_getD, List.getD_eq_getElem?_getD, List.getElem?_map, List.getElem?_take, if_pos (by omega), List.getElem?_eq_getElem hi']
      simp; omega
    · intro y hy
      obtain ⟨z, hz1, rfl⟩ := List.mem_map.1 hy
      have := hwf z (List.mem_of_mem_take hz1)
      omega
theorem wf64 {a : Int} (w : (Lit.int .i64 a).wf = true) : Cod.I64 a := by
  simp only [Lit.wf, Bool.and_eq_true, decide_eq_true_eq, show IntKind.i64.min = -9223372036854775808 from rfl, show IntKind.i64.max = 9223372036854775807 from rfl] at w
  exact w
theorem sameBytes_own {w : World} {b1 b2 n : Nat} {A B : Option Addr} {c d : Nat} {bs : List Nat} (hb : ∀ x ∈ bs, x < 256) (hn : bs.length = n) (hl : n ≤ 1152921504606846976) (h1 : w.ownsRow b1 5 1 (.slice A n c) n (byv bs)) (h2 : w.ownsRow b2 5 1 (.slice B n d) n (byv bs)) :
    Calls Try.prog 12 #[.slice A n c, .slice B n d] w fun e w' => e = .returned (.bool true) ∧ w = w' := by
  subst hn
  refine (sameBytes_any A B c d bs bs w (own_rdb h1 hl).2 (own_rdb h2 hl).2 hb hb).mono fun e w' ⟨he, hw⟩ => ⟨?_, hw⟩
  rw [he]; unfold sameBy; simp
set_option maxRecDepth 100000 in
set_option maxHeartbeats 1000000 in
theorem codecNumbers_walk (w : World) (a0 : Int) (A : Option Addr) (c : Nat) (bs : List Nat) (w0 : (Lit.int .i64 a0).wf = true) (hr : RdB w A c bs) (hw : ∀ x ∈ bs, x < 256) :
    Calls Try.prog 3 #[.int .i64 a0, .slice A bs.length c] w fun e w' => e = .returned (.bool true) ∧ Below w.heap.size w w' := by
  have hi := wf64 w0
  have hm := hr.len
  by_cases hl : (1000 : Int) < bs.length
  · clear hr hw w0
    go_enter Try.func3, Try.ntmps3
    go_wp2_with (go_at_call 9; refine (awake_p _).mono ?_; rintro e w' ⟨rfl, hb⟩)
    go_ret
    exact ⟨rfl, hb⟩
  · have HP := Lib.hid (takeInt_p A c bs w hr hw)
    have HQ := Lib.hid (fun w' hb => takeInt_r A c bs w' (hr.keep hb) hw)
    have hpl := Cod.put_le hi
    have HT := Lib.hid (Cod.put_lt a0)
    obtain ⟨t, hT⟩ : ∃ t, t = Cod.tk bs := ⟨_, rfl⟩
    rw [← hT] at HP HQ
    clear hr hw w0 hT
    obtain ⟨i1, i2⟩ := hi
    go_enter Try.func3, Try.ntmps3
    go_wp2_with fail
    refine HP.out.mono ?_
    rintro e w1 ⟨rfl, hb1⟩
    have HB1 := Lib.hid hb1
    clear hb1 HP
    go_wp2_with fail
    refine (HQ.out w1 HB1.out).mono ?_
    rintro e w2 ⟨rfl, rfl⟩
    go_wp2_with fail
    refine (putInt_p a0 _ i1 i2).mono ?_
    rintro e w2 ⟨A2, c2, rfl, ho2, hb2⟩
    have HB2 := Lib.hid (below_seq HB1.out hb2)
    have HO2 := Lib.hid ho2
    clear ho2 hb2
    go_wp2_with fail
    refine (putInt_r a0 _ i1 i2).mono ?_
    rintro e w3 ⟨A3, c3, rfl, ho3, hb3⟩
    have HB3 := Lib.hid (below_seq HB2.out hb3)
    have HO3 := Lib.hid (own_keep HO2.out hb3)
    have HO4 := Lib.hid ho3
    clear ho3 hb3
    go_wp2_with fail
    refine (sameBytes_own (bs := Cod.put a0) HT.out rfl (by omega) HO3.out HO4.out).mono ?_
    rintro e w4 ⟨rfl, rfl⟩
    go_wp2_with fail
    refine (awake_p _).mono ?_
    rintro e w5 ⟨rfl, hb5⟩
    have HB5 := Lib.hid (below_seq HB3.out hb5)
    clear hb5
    go_wp2_with fail
    go_ret
    exact ⟨rfl, HB5.out⟩
end Go.Proofs.Ytepeamhoajlniaa
