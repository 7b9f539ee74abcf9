/- The walk of the statement WalkWords: the whole. -/
import Derived.Test.YthemmbdhhjelcaaLaw32d
namespace Go.Proofs.Ythemmbdhhjelcaa
open Go.RowKit

set_option maxRecDepth 100000 in
set_option maxHeartbeats 4000000 in
theorem walkWords_walk (w : World) (I S : Int) (A : Option Addr) (c : Nat) (nx : List (List Int)) (B : Option Addr) (d : Nat) (out : List (List Int)) (a4 a5 a6 : Int)
    (_w0 : (Lit.int .i64 I).wf = true) (_w1 : (Lit.int .i64 S).wf = true) (hN : RdM .i64 w A nx) (_w2 : WfM .i64 nx) (hO : RdM .i64 w B out) (_w3 : WfM .i64 out) (w4 : (Lit.int .u64 a4).wf = true) (_w5 : (Lit.int .i64 a5).wf = true) (_w6 : (Lit.int .i64 a6).wf = true) :
    Calls Try.prog 13 #[.agg #[.int .i64 I, .int .i64 S, .slice A nx.length c, .slice B out.length d], .agg #[.int .u64 a4, .int .i64 a5, .int .i64 a6]] w fun e w' => e = .returned (.bool true) ∧ Below w.heap.size w w' := by
  obtain ⟨s, rfl, hs⟩ := u64_nat w4
  by_cases hv : Mea.validE I S nx out = 0
  · obtain ⟨k, t, rfl, rfl, ok⟩ := Mea.ok_of hv
    by_cases h : a5 < 0 ∨ 10000 ≤ a5 ∨ a6 < 0 ∨ 1024 < a6
    · exact walkWords_out w k t s a5 a6 A c nx B d out hN hO ok hs h
    · obtain ⟨n, rfl⟩ : ∃ n : Nat, a5 = n := ⟨a5.toNat, by omega⟩
      obtain ⟨len, rfl⟩ : ∃ n : Nat, a6 = n := ⟨a6.toNat, by omega⟩
      exact walkWords_in w k t s n len A c nx B d out hN hO ok hs (by omega) (by omega)
  · have hbx : Below w.heap.size w ((w.alloc (.cells #[.int .i64 I, .int .i64 S, .slice A nx.length c, .slice B out.length d] 62)).alloc (.cells #[.int .u64 s, .int .i64 a5, .int .i64 a6] 53)) :=
      ((Below.refl _ _).alloc (Nat.le_refl _) _).alloc (by simp) _
    have mb0 := (MB.new w I S (.slice A nx.length c) (.slice B out.length d) 62).keep ((Below.refl _ _).alloc (Nat.le_refl _) (.cells #[.int .u64 s, .int .i64 a5, .int .i64 a6] 53))
    have wb0 := WB.new (w.alloc (.cells #[.int .i64 I, .int .i64 S, .slice A nx.length c, .slice B out.length d] 62)) (w.heap.size + 1) s a5 a6 53 (by simp)
    have rN0 := hN.keep hbx
    have rO0 := hO.keep hbx
    clear hN hO w4
    obtain ⟨q, hq⟩ : ∃ q, q = Mea.validE I S nx out := ⟨_, rfl⟩
    rw [← hq] at hv
    have hbq : (q != 0) = true := by rw [bne_iff_ne]; exact hv
    have HQ := Lib.hid hq
    clear hq hv
    go_enter Try.func13, Try.ntmps13
    go_wp2_with fail
    refine (great_any I S A B c d nx out _ rN0 rO0).mono ?_
    rintro e v1 ⟨b1, rfl, hb1⟩
    have mb1 := mb0.keep hb1
    have wb1 := wb0.keep hb1
    have rN1 := rN0.keep hb1
    have rO1 := rO0.keep hb1
    have hw1 := below_seq hbx hb1
    clear mb0 wb0 rN0 rO0 hb1 hbx
    cases b1
    rotate_left
    · go_wp2_with (go_at_call 28; refine (wake32 _).mono ?_; rintro e v4 ⟨rfl, hb4⟩)
      go_ret
      exact ⟨rfl, below_seq hw1 hb4⟩
    · obtain ⟨x0, x1, x2⟩ := wb1
      obtain ⟨m0, m1, m2, m3⟩ := mb1
      go_wp2_with fail
      refine (few_any s a5 a6 _).mono ?_
      rintro e v2 ⟨b2, rfl, hb2⟩
      have mb2 := (MB.mk m0 m1 m2 m3).keep hb2
      have rN2 := rN1.keep hb2
      have rO2 := rO1.keep hb2
      have hw2 := below_seq hw1 hb2
      clear m0 m1 m2 m3 x0 x1 x2 rN1 rO1 hb2 hw1
      cases b2
      · go_wp2_with (go_at_call 28; refine (wake32 _).mono ?_; rintro e v4 ⟨rfl, hb4⟩)
        go_ret
        exact ⟨rfl, below_seq hw2 hb4⟩
      · obtain ⟨m0, m1, m2, m3⟩ := mb2
        go_wp2_with fail
        refine (rvalid I S A B c d nx out _ rN2 rO2).mono ?_
        rintro e v3 ⟨rfl, hb3⟩
        rw [← HQ.out]
        have hw3 := below_seq hw2 hb3
        clear m0 m1 m2 m3 rN2 rO2 hb3 hw2
        go_wp2_with (go_at_call 28; refine (wake32 _).mono ?_; rintro e v4 ⟨rfl, hb4⟩)
        go_ret
        exact ⟨rfl, below_seq hw3 hb4⟩
end Go.Proofs.Ythemmbdhhjelcaa
