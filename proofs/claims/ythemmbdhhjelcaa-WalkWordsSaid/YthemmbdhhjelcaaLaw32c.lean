/- The walk of the statement WalkWords. -/
import Derived.Test.YthemmbdhhjelcaaLaw32b
import Derived.Test.YthemmbdhhjelcaaCheck
import Derived.StillTailTactics
namespace Go.Proofs.Ythemmbdhhjelcaa
open Go.RowKit

/-- the error of the numbers of a walk -/
def errS (c l : Int) : Int := if c < 0 ∨ 10000 < c ∨ l < 0 ∨ 1024 < l then 2 else 0
def AnyL (w : World) (q : Int) (e : Ending) (w' : World) : Prop := ∃ (A : Option Addr) (n c : Nat), e = .returned (.tuple #[.slice A n c, .int .i64 q]) ∧ Below w.heap.size w w'
theorem suite_any (s k : Nat) (c l : Int) (w : World) (hs : s < 18446744073709551616) (hk1 : 1 ≤ k) (hk2 : k ≤ 64) :
    Calls Try.prog 29 #[.int .u64 s, .int .i64 k, .int .i64 c, .int .i64 l] w (AnyL w (errS c l)) := by
  by_cases h : c < 0 ∨ 10000 < c ∨ l < 0 ∨ 1024 < l
  · rw [errS, if_pos h]
    exact (suite_p_no s k c l w (by omega)).mono fun _ _ ⟨he, hw⟩ => ⟨none, 0, 0, he, hw ▸ Below.refl _ _⟩
  · rw [errS, if_neg h]
    exact (suite_pJ s k c l k c.toNat l.toNat w rfl (by omega) (by omega) hs hk1 hk2 (by omega) (by omega)).mono fun _ _ ⟨A, f, he, _, hb⟩ => ⟨A, _, f, he, hb⟩
theorem guided_any (k t s : Nat) (cnt len : Int) (A B : Option Addr) (c d : Nat) (nx out : List (List Int)) (w : World) (hN : RdM .i64 w A nx) (hO : RdM .i64 w B out) (ok : Mea.Ok k t nx out) (hs : s < 18446744073709551616) :
    Calls Try.prog 33 #[.agg #[.int .i64 k, .int .i64 t, .slice A nx.length c, .slice B out.length d], .int .u64 s, .int .i64 cnt, .int .i64 len] w (AnyL w (errS cnt len)) := by
  by_cases h : cnt < 0 ∨ 10000 < cnt ∨ len < 0 ∨ 1024 < len
  · rw [errS, if_pos h]
    exact (guided_p_wrong k t s cnt len A B c d nx out w hN hO ok.valid h).mono fun _ _ ⟨he, hb⟩ => ⟨none, 0, 0, he, hb⟩
  · rw [errS, if_neg h]
    exact (guided_pI k t s cnt len cnt.toNat len.toNat A B c d nx out w hN hO (by omega) (by omega) ok hs (by omega) (by omega)).mono fun _ _ ⟨C, f, he, _, hb⟩ => ⟨C, _, f, he, hb⟩
theorem RdM.pre {w : World} {A : Option Addr} {xss yss : List (List Int)} (h : RdM .i64 w A (xss ++ yss)) : RdM .i64 w A xss := by
  refine ⟨by have := h.1; simp at this; omega, fun hp => ?_⟩
  obtain ⟨ad, e, hc⟩ := h.2 (by simp; omega)
  refine ⟨ad, e, fun i hi => ?_⟩
  obtain ⟨B, c, h1, h2⟩ := hc i (by simp; omega)
  have e : (xss ++ yss).getD i [] = xss.getD i [] := by
    rw [List.getD_eq_getElem?_getD, List.getD_eq_getElem?_getD, List.getElem?_append_left hi]
  rw [e] at h1 h2
  exact ⟨B, c, h1, h2⟩
theorem same10_rd {w : World} {n : Nat} {A B : Option Addr} {c d : Nat} {xss : List (List Int)} (hl : xss.length = n) (ha : RdM .i64 w A xss) (hb : RdM .i64 w B xss) :
    Calls Try.prog 31 #[.slice A n c, .slice B n d] w fun e w' => e = .returned (.bool true) ∧ Below w.heap.size w w' := by
  subst hl
  exact (same10 A B c d xss w ha hb).mono fun _ _ ⟨he, n, hw⟩ => ⟨he, hw ▸ below_drewN' (Below.refl _ _) n⟩
theorem check_ok {w : World} {k n : Nat} {A : Option Addr} {c : Nat} {xs : List Int} (hl : xs.length = n) (hn : n ≤ 1024) (hk1 : 1 ≤ k) (hk2 : k ≤ 64) (hx : ∀ x ∈ xs, 0 ≤ x ∧ x < k) (h : Rd w A xs) :
    Calls Try.prog 37 #[.slice A n c, .int .i64 k] w fun e w' => e = .returned (.int .i64 0) ∧ Below w.heap.size w w' := by
  subst hl
  have := check_any k A c xs w h
  have e : checkE k xs = 0 := by
    unfold checkE
    have ha : xs.any (badB k) = false := by
      rw [List.any_eq_false]
      intro x hx'
      have := hx x hx'
      simp [badB]; omega
    rw [if_neg (by omega), if_neg (by omega), ha]; rfl
  rw [e] at this
  exact this
theorem wl_rng (s k n : Nat) (hk : 1 ≤ k) : ∀ x ∈ Rnd.wl s k n, 0 ≤ x ∧ x < k := by
  intro x hx
  obtain ⟨i, _, rfl⟩ := List.mem_map.1 hx
  have := Rnd.bel_lt (Rnd.st s k i) k hk
  unfold Rnd.dr
  omega
theorem gword_rng (k : Nat) (nx : List (List Int)) (σ : Gd.G) (n : Nat) (hk : 1 ≤ k) : ∀ x ∈ Gd.gword k nx σ n, 0 ≤ x ∧ x < k := by
  intro x hx
  obtain ⟨i, _, rfl⟩ := List.mem_map.1 hx
  have := Gd.gpick_lt k (Gd.git k nx σ i) hk
  omega

theorem errs {cnt len : Int} (h : cnt < 0 ∨ 10000 ≤ cnt ∨ len < 0 ∨ 1024 < len) : errS cnt len ≠ 0 ∨ (errS cnt len = 0 ∧ errS (wrap64 (cnt + 1)) len ≠ 0) := by
  by_cases h1 : cnt < 0 ∨ 10000 < cnt ∨ len < 0 ∨ 1024 < len
  · left; unfold errS; rw [if_pos h1]; omega
  · right
    have hc : cnt = 10000 := by omega
    subst hc
    refine ⟨by unfold errS; rw [if_neg h1], ?_⟩
    have : wrap64 (10000 + 1) = 10001 := by unfold wrap64; omega
    rw [this]; unfold errS; rw [if_pos (by omega)]; omega
set_option maxRecDepth 100000 in
set_option maxHeartbeats 4000000 in
/-- the round over the words of a list, as the law asks: here beyond the numbers -/
theorem walkWords_out (w : World) (k t s : Nat) (cnt len : Int) (A : Option Addr) (c : Nat) (nx : List (List Int)) (B : Option Addr) (d : Nat) (out : List (List Int))
    (hN : RdM .i64 w A nx) (hO : RdM .i64 w B out) (ok : Mea.Ok k t nx out) (hs : s < 18446744073709551616)
    (h : cnt < 0 ∨ 10000 ≤ cnt ∨ len < 0 ∨ 1024 < len) :
    Calls Try.prog 13 #[.agg #[.int .i64 k, .int .i64 t, .slice A nx.length c, .slice B out.length d], .agg #[.int .u64 s, .int .i64 cnt, .int .i64 len]] w fun e w' => e = .returned (.bool true) ∧ Below w.heap.size w w' := by
  have k1 := ok.k1
  have k64 := ok.k64
  have hbx : Below w.heap.size w ((w.alloc (.cells #[.int .i64 k, .int .i64 t, .slice A nx.length c, .slice B out.length d] 62)).alloc (.cells #[.int .u64 s, .int .i64 cnt, .int .i64 len] 53)) :=
    ((Below.refl _ _).alloc (Nat.le_refl _) _).alloc (by simp) _
  have mb0 := (MB.new w k t (.slice A nx.length c) (.slice B out.length d) 62).keep ((Below.refl _ _).alloc (Nat.le_refl _) (.cells #[.int .u64 s, .int .i64 cnt, .int .i64 len] 53))
  have wb0 := WB.new (w.alloc (.cells #[.int .i64 k, .int .i64 t, .slice A nx.length c, .slice B out.length d] 62)) (w.heap.size + 1) s cnt len 53 (by simp)
  have rN0 := hN.keep hbx
  have rO0 := hO.keep hbx
  have H := Lib.hid h
  have OK := Lib.hid ok
  clear hN hO h ok
  go_enter Try.func13, Try.ntmps13
  go_wp2_with fail
  refine (great_any k t A B c d nx out _ rN0 rO0).mono ?_
  rintro e v1 ⟨b1, rfl, hb1⟩
  have mb1 := mb0.keep hb1
  have wb1 := wb0.keep hb1
  have rN1 := rN0.keep hb1
  have rO1 := rO0.keep hb1
  have hw1 := below_seq hbx hb1
  clear mb0 wb0 rN0 rO0 hb1 hbx
  cases b1
  rotate_left
  · go_wp2_with (go_at_call 28; refine (wake32 _).mono ?_; rintro e v4 ⟨rfl, hb4⟩)
    go_ret
    exact ⟨rfl, below_seq hw1 hb4⟩
  · obtain ⟨x0, x1, x2⟩ := wb1
    obtain ⟨m0, m1, m2, m3⟩ := mb1
    go_wp2_with fail
    refine (few_any s cnt len _).mono ?_
    rintro e v2 ⟨b2, rfl, hb2⟩
    have mb2 := (MB.mk m0 m1 m2 m3).keep hb2
    have wb2 := (WB.mk x0 x1 x2).keep hb2
    have rN2 := rN1.keep hb2
    have rO2 := rO1.keep hb2
    have hw2 := below_seq hw1 hb2
    clear m0 m1 m2 m3 x0 x1 x2 rN1 rO1 hb2 hw1
    cases b2
    · go_wp2_with (go_at_call 28; refine (wake32 _).mono ?_; rintro e v4 ⟨rfl, hb4⟩)
      go_ret
      exact ⟨rfl, below_seq hw2 hb4⟩
    · obtain ⟨x0, x1, x2⟩ := wb2
      obtain ⟨m0, m1, m2, m3⟩ := mb2
      go_wp2_with fail
      refine (rvalid k t A B c d nx out _ rN2 rO2).mono ?_
      rintro e v3 ⟨rfl, hb3⟩
      rw [OK.out.valid]
      have mb3 := (MB.mk m0 m1 m2 m3).keep hb3
      have wb3 := (WB.mk x0 x1 x2).keep hb3
      have rN3 := rN2.keep hb3
      have rO3 := rO2.keep hb3
      have hw3 := below_seq hw2 hb3
      clear m0 m1 m2 m3 x0 x1 x2 rN2 rO2 hb3 hw2
      go_wp2_with fail
      have hcase := Lib.hid (show cnt < 0 ∨ (0 ≤ cnt ∧ 10000 ≤ cnt) ∨ (0 ≤ cnt ∧ cnt < 10000 ∧ len < 0) ∨ (0 ≤ cnt ∧ cnt < 10000 ∧ 0 ≤ len ∧ 1024 < len) by have := H.out; omega)
      have herr := errs H.out
      obtain ⟨p1, hp1⟩ : ∃ p, p = errS cnt len := ⟨_, rfl⟩
      obtain ⟨p2, hp2⟩ : ∃ p, p = errS (wrap64 (cnt + 1)) len := ⟨_, rfl⟩
      rw [← hp1, ← hp2] at herr
      have HE := Lib.hid herr
      have HP1 := Lib.hid hp1
      have HP2 := Lib.hid hp2
      clear herr hp1 hp2
      go_loopw [24] (fun i wr => ∃ j : Nat, j ≤ 2 ∧ i = .int .i64 j ∧ Below v3.heap.size v3 wr) (fun i _ => 2 - (intOf i).toNat)
      case atStart => exact ⟨0, by omega, rfl, Below.refl _ _⟩
      case round =>
        obtain ⟨j, hj, rfl, hbel⟩ := hrel
        obtain ⟨m0, m1, m2, m3⟩ := mb3.keep hbel
        obtain ⟨x0, x1, x2⟩ := wb3.keep hbel
        have rNy := rN3.keep hbel
        have rOy := rO3.keep hbel
        by_cases hj2 : j < 2
        · rcases (show j = 0 ∨ j = 1 by omega) with rfl | rfl
          · clear mb3 wb3 rN3 rO3
            go_wp2_with fail
            refine (suite_any s k cnt len _ hs k1 k64).mono ?_
            rintro e v4 ⟨A4, n4, c4, rfl, hb4⟩
            rw [← HP1.out]
            have mb4 := (MB.mk m0 m1 m2 m3).keep hb4
            have wb4 := (WB.mk x0 x1 x2).keep hb4
            have rNx := rNy.keep hb4
            have rOx := rOy.keep hb4
            have hbx4 := below_seq hbel hb4
            clear m0 m1 m2 m3 x0 x1 x2 rNy rOy hb4
            obtain ⟨m0, m1, m2, m3⟩ := mb4
            obtain ⟨x0, x1, x2⟩ := wb4
            have rNy := rNx
            have rOy := rOx
            clear rNx rOx
            go_wp2_with fail
            refine (suite_any s k (wrap64 (cnt + 1)) len _ hs k1 k64).mono ?_
            rintro e v5 ⟨A5, n5, c5, rfl, hb5⟩
            rw [← HP2.out]
            have mb5 := (MB.mk m0 m1 m2 m3).keep hb5
            have wb5 := (WB.mk x0 x1 x2).keep hb5
            have rNx := rNy.keep hb5
            have rOx := rOy.keep hb5
            have hbx5 := below_seq hbx4 hb5
            clear m0 m1 m2 m3 x0 x1 x2 rNy rOy hb5
            obtain ⟨m0, m1, m2, m3⟩ := mb5
            obtain ⟨x0, x1, x2⟩ := wb5
            have rNy := rNx
            have rOy := rOx
            clear rNx rOx
            clear m0 m1 m2 m3
            have HK := hcase.out
            rcases HK with q | ⟨q, q1⟩ | ⟨q, q1, q2⟩ | ⟨q, q1, q2, q3⟩
            all_goals
              rcases HE.out with he | ⟨he, he2⟩
              · have hbq : (p1 != 0) = true := by rw [bne_iff_ne]; exact he
                clear he
                go_wp2
                go_roundw
                case rel => exact ⟨1, by omega, by first | rfl | go_num, hbx5⟩
                case measure => simp [intOf]
              · have hbq : (p1 != 0) = false := by rw [bne_eq_false_iff_eq]; exact he
                have hbq2 : (p2 != 0) = true := by rw [bne_iff_ne]; exact he2
                clear he he2
                go_wp2
                go_roundw
                case rel => exact ⟨1, by omega, by first | rfl | go_num, hbx5⟩
                case measure => simp [intOf]
          · clear mb3 wb3 rN3 rO3
            go_wp2_with fail
            refine (suite_any s k cnt len _ hs k1 k64).mono ?_
            rintro e v4 ⟨A4, n4, c4, rfl, hb4⟩
            rw [← HP1.out]
            have mb4 := (MB.mk m0 m1 m2 m3).keep hb4
            have wb4 := (WB.mk x0 x1 x2).keep hb4
            have rNx := rNy.keep hb4
            have rOx := rOy.keep hb4
            have hbx4 := below_seq hbel hb4
            clear m0 m1 m2 m3 x0 x1 x2 rNy rOy hb4
            obtain ⟨m0, m1, m2, m3⟩ := mb4
            obtain ⟨x0, x1, x2⟩ := wb4
            have rNy := rNx
            have rOy := rOx
            clear rNx rOx
            go_wp2_with fail
            refine (suite_any s k (wrap64 (cnt + 1)) len _ hs k1 k64).mono ?_
            rintro e v5 ⟨A5, n5, c5, rfl, hb5⟩
            rw [← HP2.out]
            have mb5 := (MB.mk m0 m1 m2 m3).keep hb5
            have wb5 := (WB.mk x0 x1 x2).keep hb5
            have rNx := rNy.keep hb5
            have rOx := rOy.keep hb5
            have hbx5 := below_seq hbx4 hb5
            clear m0 m1 m2 m3 x0 x1 x2 rNy rOy hb5
            obtain ⟨m0, m1, m2, m3⟩ := mb5
            obtain ⟨x0, x1, x2⟩ := wb5
            have rNy := rNx
            have rOy := rOx
            clear rNx rOx
            go_wp2_with fail
            refine (guided_any k t s cnt len A B c d nx out _ rNy rOy OK.out hs).mono ?_
            rintro e v6 ⟨A6, n6, c6, rfl, hb6⟩
            rw [← HP1.out]
            have mb6 := (MB.mk m0 m1 m2 m3).keep hb6
            have wb6 := (WB.mk x0 x1 x2).keep hb6
            have rNx := rNy.keep hb6
            have rOx := rOy.keep hb6
            have hbx6 := below_seq hbx5 hb6
            clear m0 m1 m2 m3 x0 x1 x2 rNy rOy hb6
            obtain ⟨m0, m1, m2, m3⟩ := mb6
            obtain ⟨x0, x1, x2⟩ := wb6
            have rNy := rNx
            have rOy := rOx
            clear rNx rOx
            go_wp2_with fail
            refine (guided_any k t s (wrap64 (cnt + 1)) len A B c d nx out _ rNy rOy OK.out hs).mono ?_
            rintro e v7 ⟨A7, n7, c7, rfl, hb7⟩
            rw [← HP2.out]
            have mb7 := (MB.mk m0 m1 m2 m3).keep hb7
            have wb7 := (WB.mk x0 x1 x2).keep hb7
            have rNx := rNy.keep hb7
            have rOx := rOy.keep hb7
            have hbx7 := below_seq hbx6 hb7
            clear m0 m1 m2 m3 x0 x1 x2 rNy rOy hb7
            obtain ⟨m0, m1, m2, m3⟩ := mb7
            obtain ⟨x0, x1, x2⟩ := wb7
            have rNy := rNx
            have rOy := rOx
            clear rNx rOx
            clear m0 m1 m2 m3
            have HK := hcase.out
            rcases HK with q | ⟨q, q1⟩ | ⟨q, q1, q2⟩ | ⟨q, q1, q2, q3⟩
            all_goals
              rcases HE.out with he | ⟨he, he2⟩
              · have hbq : (p1 != 0) = true := by rw [bne_iff_ne]; exact he
                clear he
                go_wp2
                go_roundw
                case rel => exact ⟨2, by omega, by first | rfl | go_num, hbx7⟩
                case measure => simp [intOf]
              · have hbq : (p1 != 0) = false := by rw [bne_eq_false_iff_eq]; exact he
                have hbq2 : (p2 != 0) = true := by rw [bne_iff_ne]; exact he2
                clear he he2
                go_wp2
                go_roundw
                case rel => exact ⟨2, by omega, by first | rfl | go_num, hbx7⟩
                case measure => simp [intOf]
        · obtain rfl : j = 2 := by omega
          go_wp2_with (go_at_call 28; refine (wake32 _).mono ?_; rintro e v4 ⟨rfl, hb4⟩)
          go_ret
          exact ⟨rfl, below_seq (below_seq hw3 hbel) hb4⟩
end Go.Proofs.Ythemmbdhhjelcaa
