/- The walk of the statement WalkWords, inside the numbers; the statement's walk. -/
import Derived.Test.YthemmbdhhjelcaaLaw32c
import Derived.Deep.RegionHeld3
namespace Go.Proofs.Ythemmbdhhjelcaa
open Go.RowKit

/-- n words of a length, their symbols below k -/
def Good (k len : Nat) (xss : List (List Int)) : Prop := ∀ i, i < xss.length → (xss.getD i []).length = len ∧ ∀ x ∈ xss.getD i [], 0 ≤ x ∧ x < k
theorem good_su (s k len n : Nat) (hk : 1 ≤ k) : Good k len (Rnd.su s k len n) := fun i hi => by
  rw [Rnd.su_len] at hi
  rw [Rnd.su_get _ _ _ _ hi]
  exact ⟨Rnd.wl_len _ _ _, wl_rng _ _ _ hk⟩
theorem good_gl (k : Nat) (nx : List (List Int)) (S len s n : Nat) (hk : 1 ≤ k) : Good k len (Gd.gl k nx S len s n) := fun i hi => by
  rw [Gd.gl_len] at hi
  rw [Gd.gl_get _ _ _ _ _ _ hi]
  exact ⟨Gd.gword_len _ _ _ _, gword_rng _ _ _ _ hk⟩
theorem ownm_cap {w : World} {base e1 e2 n : Nat} {A : Option Addr} {c : Nat} {xss : List (List Int)} (hl : xss.length = n) (hn : 0 < n) (h : OwnM w base e1 e2 (.slice A n c) xss) : n ≤ c ∧ c ≤ 9223372036854775807 := by
  obtain ⟨ys, h1, _⟩ := h
  rcases h1.2 with ⟨_, h0⟩ | ⟨g, cap, cur, hv, _, _, hc, hm, _⟩
  · omega
  · injection hv with _ _ hcc
    subst hcc
    unfold maxLen at hm
    omega
/-- two lists, the second one word longer, in memory -/
structure Two (w : World) (A B : Option Addr) (L : List (List Int)) (y : List Int) (n f : Nat) : Prop where
  len : L.length = n
  rA : RdM .i64 w A L
  rB : RdM .i64 w B (L ++ [y])
  cap1 : n + 1 ≤ f
  cap2 : f ≤ 9223372036854775807
theorem Two.keep {w w' : World} {A B : Option Addr} {L : List (List Int)} {y : List Int} {n f : Nat} (h : Two w A B L y n f) (hb : Below w.heap.size w w') : Two w' A B L y n f :=
  ⟨h.len, h.rA.keep hb, h.rB.keep hb, h.cap1, h.cap2⟩

set_option maxRecDepth 100000 in
set_option maxHeartbeats 4000000 in
theorem walkWords_in (w : World) (k t s n len : Nat) (A : Option Addr) (c : Nat) (nx : List (List Int)) (B : Option Addr) (d : Nat) (out : List (List Int))
    (hN : RdM .i64 w A nx) (hO : RdM .i64 w B out) (ok : Mea.Ok k t nx out) (hs : s < 18446744073709551616) (hn : n < 10000) (hlen : len ≤ 1024) :
    Calls Try.prog 13 #[.agg #[.int .i64 k, .int .i64 t, .slice A nx.length c, .slice B out.length d], .agg #[.int .u64 s, .int .i64 n, .int .i64 len]] w fun e w' => e = .returned (.bool true) ∧ Below w.heap.size w w' := by
  have k1 := ok.k1
  have k64 := ok.k64
  have hbx : Below w.heap.size w ((w.alloc (.cells #[.int .i64 k, .int .i64 t, .slice A nx.length c, .slice B out.length d] 62)).alloc (.cells #[.int .u64 s, .int .i64 n, .int .i64 len] 53)) :=
    ((Below.refl _ _).alloc (Nat.le_refl _) _).alloc (by simp) _
  have mb0 := (MB.new w k t (.slice A nx.length c) (.slice B out.length d) 62).keep ((Below.refl _ _).alloc (Nat.le_refl _) (.cells #[.int .u64 s, .int .i64 n, .int .i64 len] 53))
  have wb0 := WB.new (w.alloc (.cells #[.int .i64 k, .int .i64 t, .slice A nx.length c, .slice B out.length d] 62)) (w.heap.size + 1) s n len 53 (by simp)
  have rN0 := hN.keep hbx
  have rO0 := hO.keep hbx
  have OK := Lib.hid ok
  clear hN hO ok
  go_enter Try.func13, Try.ntmps13
  go_wp2_with fail
  refine (great_any k t A B c d nx out _ rN0 rO0).mono ?_
  rintro e v1 ⟨b1, rfl, hb1⟩
  have mb1 := mb0.keep hb1
  have wb1 := wb0.keep hb1
  have rN1 := rN0.keep hb1
  have rO1 := rO0.keep hb1
  have hw1 := below_seq hbx hb1
  clear mb0 wb0 rN0 rO0 hb1 hbx
  cases b1
  rotate_left
  · go_wp2_with (go_at_call 28; refine (wake32 _).mono ?_; rintro e v4 ⟨rfl, hb4⟩)
    go_ret
    exact ⟨rfl, below_seq hw1 hb4⟩
  · obtain ⟨x0, x1, x2⟩ := wb1
    obtain ⟨m0, m1, m2, m3⟩ := mb1
    go_wp2_with fail
    refine (few_any s n len _).mono ?_
    rintro e v2 ⟨b2, rfl, hb2⟩
    have mb2 := (MB.mk m0 m1 m2 m3).keep hb2
    have wb2 := (WB.mk x0 x1 x2).keep hb2
    have rN2 := rN1.keep hb2
    have rO2 := rO1.keep hb2
    have hw2 := below_seq hw1 hb2
    clear m0 m1 m2 m3 x0 x1 x2 rN1 rO1 hb2 hw1
    cases b2
    · go_wp2_with (go_at_call 28; refine (wake32 _).mono ?_; rintro e v4 ⟨rfl, hb4⟩)
      go_ret
      exact ⟨rfl, below_seq hw2 hb4⟩
    · obtain ⟨x0, x1, x2⟩ := wb2
      obtain ⟨m0, m1, m2, m3⟩ := mb2
      go_wp2_with fail
      refine (rvalid k t A B c d nx out _ rN2 rO2).mono ?_
      rintro e v3 ⟨rfl, hb3⟩
      rw [OK.out.valid]
      have mb3 := (MB.mk m0 m1 m2 m3).keep hb3
      have wb3 := (WB.mk x0 x1 x2).keep hb3
      have rN3 := rN2.keep hb3
      have rO3 := rO2.keep hb3
      have hw3 := below_seq hw2 hb3
      clear m0 m1 m2 m3 x0 x1 x2 rN2 rO2 hb3 hw2
      have hbn : ((n : Int) != (n : Int)) = false := by simp
      have hbn2 : ((n : Int) + 1 != (n : Int) + 1) = false := by simp
      go_wp2_with fail
      go_loopw [24] (fun i wr => ∃ j : Nat, j ≤ 2 ∧ i = .int .i64 j ∧ Below v3.heap.size v3 wr) (fun i _ => 2 - (intOf i).toNat)
      case atStart => exact ⟨0, by omega, rfl, Below.refl _ _⟩
      case round =>
        obtain ⟨j, hj, rfl, hbel⟩ := hrel
        obtain ⟨m0, m1, m2, m3⟩ := mb3.keep hbel
        obtain ⟨x0, x1, x2⟩ := wb3.keep hbel
        have rNy := rN3.keep hbel
        have rOy := rO3.keep hbel
        by_cases hj2 : j < 2
        · rcases (show j = 0 ∨ j = 1 by omega) with rfl | rfl
          · clear mb3 wb3 rN3 rO3
            go_wp2_with fail
            refine (suite_pJ s _ _ _ k n len _ rfl rfl rfl hs k1 k64 (by omega) hlen).mono ?_
            rintro e v4 ⟨A4, c4, rfl, ho4, hb4⟩
            have mb4 := (MB.mk m0 m1 m2 m3).keep hb4
            have wb4 := (WB.mk x0 x1 x2).keep hb4
            have hbx4 := below_seq hbel hb4
            have rA4 := ownm_rd (Rnd.su_len _ _ _ _) (by omega) (fun i hi => by rw [Rnd.su_get _ _ _ _ hi, Rnd.wl_len]; omega) ho4
            clear m0 m1 m2 m3 x0 x1 x2 rNy rOy hb4 ho4
            obtain ⟨m0, m1, m2, m3⟩ := mb4
            obtain ⟨x0, x1, x2⟩ := wb4
            go_wp2_with fail
            refine (suite_pJ s _ _ _ k (n + 1) len _ rfl (by omega) rfl hs k1 k64 (by omega) hlen).mono ?_
            rintro e v5 ⟨B5, c5, rfl, ho5, hb5⟩
            have mb5 := (MB.mk m0 m1 m2 m3).keep hb5
            have wb5 := (WB.mk x0 x1 x2).keep hb5
            have hbx5 := below_seq hbx4 hb5
            have rB5 := ownm_rd (Rnd.su_len _ _ _ _) (by omega) (fun i hi => by rw [Rnd.su_get _ _ _ _ hi, Rnd.wl_len]; omega) ho5
            have hcap := ownm_cap (Rnd.su_len _ _ _ _) (by omega) ho5
            have rA5 := rA4.keep hb5
            rw [Rnd.su_succ] at rB5
            have hG : Good k len (Rnd.su s k len n ++ [Rnd.wl (Rnd.st s k (n * len)) k len]) := by rw [← Rnd.su_succ]; exact good_su s k len (n + 1) k1
            have TW : Two v5 A4 B5 (Rnd.su s k len n) (Rnd.wl (Rnd.st s k (n * len)) k len) n c5 := ⟨Rnd.su_len _ _ _ _, rA5, rB5, hcap.1, hcap.2⟩
            obtain ⟨L, hL⟩ : ∃ L, L = Rnd.su s k len n := ⟨_, rfl⟩
            obtain ⟨y, hy⟩ : ∃ y, y = Rnd.wl (Rnd.st s k (n * len)) k len := ⟨_, rfl⟩
            rw [← hL, ← hy] at hG TW
            have HG := Lib.hid hG
            clear m0 m1 m2 m3 x0 x1 x2 hb5 ho5 hL hy hG rB5 rA5 rA4 hcap hbx4
            obtain ⟨m0, m1, m2, m3⟩ := mb5
            obtain ⟨x0, x1, x2⟩ := wb5
            have hc1 : (n : Int) ≤ (c5 : Int) := by have := TW.cap1; omega
            have hc2 := TW.cap2
            go_wp2_with fail
            refine (same10_rd TW.len TW.rB.pre TW.rA).mono ?_
            rintro e v6 ⟨rfl, hb6⟩
            have mb6 := (MB.mk m0 m1 m2 m3).keep hb6
            have wb6 := (WB.mk x0 x1 x2).keep hb6
            have T6 := TW.keep hb6
            have hbx6 := below_seq hbx5 hb6
            clear m0 m1 m2 m3 x0 x1 x2 hb6 TW
            have hbn3 : ((len : Int) != (len : Int)) = false := by simp
            go_wp2_with fail
            go_loopw [125] (fun i wr => ∃ a : Nat, a ≤ n + 1 ∧ i = .int .i64 a ∧ Below v6.heap.size v6 wr) (fun i _ => (n + 1) - (intOf i).toNat)
            case atStart => exact ⟨0, by omega, rfl, Below.refl _ _⟩
            case round =>
              obtain ⟨a, ha, rfl, hbl⟩ := hrel
              obtain ⟨x0, x1, x2⟩ := wb6.keep hbl
              obtain ⟨m0, m1, m2, m3⟩ := mb6.keep hbl
              have T7 := T6.keep hbl
              by_cases han : a < n + 1
              · have hlL : (L ++ [y]).length = n + 1 := by rw [List.length_append, T7.len]; rfl
                obtain ⟨ad, C, e8, xs, rfl, hx, cx, rx⟩ := T7.rB.at_ (i := a) (by rw [hlL]; exact han)
                obtain ⟨hl8, hr8⟩ := HG.out a (by rw [hlL]; exact han)
                rw [hx] at hl8 hr8
                have hani : (a : Int) < (n : Int) + 1 := by omega
                clear hx
                subst hl8
                go_wp2_with fail
                go_still_tail 15, (by kernel_rfl)
                go_wp2_with fail
                refine (check_ok rfl hlen k1 k64 hr8 (rx.keep (below_drewN' (Below.refl _ _) 1))).mono ?_
                rintro e v8 ⟨rfl, hb8⟩
                go_wp2_with fail
                go_roundw
                case rel => exact ⟨a + 1, by omega, by go_num, below_seq (below_drewN' hbl 1) hb8⟩
                case measure => simp [intOf]; omega
              · obtain rfl : a = n + 1 := by omega
                go_wp2_with fail
                go_roundw
                case rel => exact ⟨1, by omega, rfl, below_seq hbx6 hbl⟩
                case measure => simp [intOf]
          · clear mb3 wb3 rN3 rO3
            go_wp2_with fail
            refine (suite_any s k n len _ hs k1 k64).mono ?_
            rintro e v4 ⟨A4, n4, c4, rfl, hb4⟩
            rw [show errS (n : Int) (len : Int) = 0 by unfold errS; rw [if_neg (by omega)]]
            have mb4 := (MB.mk m0 m1 m2 m3).keep hb4
            have wb4 := (WB.mk x0 x1 x2).keep hb4
            have rN4 := rNy.keep hb4
            have rO4 := rOy.keep hb4
            have hbx4 := below_seq hbel hb4
            clear m0 m1 m2 m3 x0 x1 x2 rNy rOy hb4 hbel
            obtain ⟨m0, m1, m2, m3⟩ := mb4
            obtain ⟨x0, x1, x2⟩ := wb4
            go_wp2_with fail
            refine (suite_any s k _ len _ hs k1 k64).mono ?_
            rintro e v5 ⟨A5, n5, c5, rfl, hb5⟩
            rw [show errS ((n : Int) + 1) (len : Int) = 0 by unfold errS; rw [if_neg (by omega)]]
            have mb5 := (MB.mk m0 m1 m2 m3).keep hb5
            have wb5 := (WB.mk x0 x1 x2).keep hb5
            have rN5 := rN4.keep hb5
            have rO5 := rO4.keep hb5
            have hbx5 := below_seq hbx4 hb5
            clear m0 m1 m2 m3 x0 x1 x2 rN4 rO4 hb5 hbx4
            obtain ⟨m0, m1, m2, m3⟩ := mb5
            obtain ⟨x0, x1, x2⟩ := wb5
            go_wp2_with fail
            refine (guided_pI k t s _ _ n len A B c d nx out _ rN5 rO5 rfl rfl OK.out hs (by omega) hlen).mono ?_
            rintro e v6 ⟨A6, c6, rfl, ho6, hb6⟩
            have mb6 := (MB.mk m0 m1 m2 m3).keep hb6
            have wb6 := (WB.mk x0 x1 x2).keep hb6
            have rN6 := rN5.keep hb6
            have rO6 := rO5.keep hb6
            have hbx6' := below_seq hbx5 hb6
            have rA6 := ownm_rd (Gd.gl_len _ _ _ _ _ _) (by omega) (fun i hi => by rw [Gd.gl_get _ _ _ _ _ _ hi, Gd.gword_len]; omega) ho6
            clear m0 m1 m2 m3 x0 x1 x2 rN5 rO5 hb6 ho6 hbx5
            obtain ⟨m0, m1, m2, m3⟩ := mb6
            obtain ⟨x0, x1, x2⟩ := wb6
            go_wp2_with fail
            refine (guided_pI k t s _ _ (n + 1) len A B c d nx out _ rN6 rO6 (by omega) rfl OK.out hs (by omega) hlen).mono ?_
            rintro e v7 ⟨B7, c7, rfl, ho7, hb7⟩
            have mb7 := (MB.mk m0 m1 m2 m3).keep hb7
            have wb7 := (WB.mk x0 x1 x2).keep hb7
            have hbx7' := below_seq hbx6' hb7
            have rB7 := ownm_rd (Gd.gl_len _ _ _ _ _ _) (by omega) (fun i hi => by rw [Gd.gl_get _ _ _ _ _ _ hi, Gd.gword_len]; omega) ho7
            have hcap := ownm_cap (Gd.gl_len _ _ _ _ _ _) (by omega) ho7
            have rA7 := rA6.keep hb7
            rw [Gd.gl_succ] at rB7
            have hG : Good k len (Gd.gl k nx t len s n ++ [Gd.gword k nx (Gd.gw k nx t len s n) len]) := by rw [← Gd.gl_succ]; exact good_gl k nx t len s (n + 1) k1
            have TW : Two v7 A6 B7 (Gd.gl k nx t len s n) (Gd.gword k nx (Gd.gw k nx t len s n) len) n c7 := ⟨Gd.gl_len _ _ _ _ _ _, rA7, rB7, hcap.1, hcap.2⟩
            obtain ⟨L, hL⟩ : ∃ L, L = Gd.gl k nx t len s n := ⟨_, rfl⟩
            obtain ⟨y, hy⟩ : ∃ y, y = Gd.gword k nx (Gd.gw k nx t len s n) len := ⟨_, rfl⟩
            rw [← hL, ← hy] at hG TW
            have HG := Lib.hid hG
            clear m0 m1 m2 m3 x0 x1 x2 rN6 rO6 hb7 ho7 hL hy hG rB7 rA7 rA6 hcap hbx6'
            obtain ⟨m0, m1, m2, m3⟩ := mb7
            obtain ⟨x0, x1, x2⟩ := wb7
            have hc1 : (n : Int) ≤ (c7 : Int) := by have := TW.cap1; omega
            have hc2 := TW.cap2
            go_wp2_with fail
            refine (same10_rd TW.len TW.rB.pre TW.rA).mono ?_
            rintro e v9 ⟨rfl, hb9⟩
            have mb9 := (MB.mk m0 m1 m2 m3).keep hb9
            have wb9 := (WB.mk x0 x1 x2).keep hb9
            have T9 := TW.keep hb9
            have hbx9 := below_seq hbx7' hb9
            clear m0 m1 m2 m3 x0 x1 x2 hb9 TW
            have hbn3 : ((len : Int) != (len : Int)) = false := by simp
            go_wp2_with fail
            go_loopw [125] (fun i wr => ∃ a : Nat, a ≤ n + 1 ∧ i = .int .i64 a ∧ Below v9.heap.size v9 wr) (fun i _ => (n + 1) - (intOf i).toNat)
            case atStart => exact ⟨0, by omega, rfl, Below.refl _ _⟩
            case round =>
              obtain ⟨a, ha, rfl, hbl⟩ := hrel
              obtain ⟨x0, x1, x2⟩ := wb9.keep hbl
              obtain ⟨m0, m1, m2, m3⟩ := mb9.keep hbl
              have T7 := T9.keep hbl
              by_cases han : a < n + 1
              · have hlL : (L ++ [y]).length = n + 1 := by rw [List.length_append, T7.len]; rfl
                obtain ⟨ad, C, e8, xs, rfl, hx, cx, rx⟩ := T7.rB.at_ (i := a) (by rw [hlL]; exact han)
                obtain ⟨hl8, hr8⟩ := HG.out a (by rw [hlL]; exact han)
                rw [hx] at hl8 hr8
                have hani : (a : Int) < (n : Int) + 1 := by omega
                clear hx
                subst hl8
                go_wp2_with fail
                go_still_tail 15, (by kernel_rfl)
                go_wp2_with fail
                refine (check_ok rfl hlen k1 k64 hr8 (rx.keep (below_drewN' (Below.refl _ _) 1))).mono ?_
                rintro e v8 ⟨rfl, hb8⟩
                go_wp2_with fail
                go_roundw
                case rel => exact ⟨a + 1, by omega, by go_num, below_seq (below_drewN' hbl 1) hb8⟩
                case measure => simp [intOf]; omega
              · obtain rfl : a = n + 1 := by omega
                go_wp2_with fail
                go_roundw
                case rel => exact ⟨2, by omega, rfl, below_seq hbx9 hbl⟩
                case measure => simp [intOf]
        · obtain rfl : j = 2 := by omega
          go_wp2_with (go_at_call 28; refine (wake32 _).mono ?_; rintro e v4 ⟨rfl, hb4⟩)
          go_ret
          exact ⟨rfl, below_seq (below_seq hw3 hbel) hb4⟩
end Go.Proofs.Ythemmbdhhjelcaa
