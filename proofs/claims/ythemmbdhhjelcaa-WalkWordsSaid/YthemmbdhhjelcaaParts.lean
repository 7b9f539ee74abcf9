/- The walks of Join and of the statement RandomParts. -/
import Derived.Test.YthemmbdhhjelcaaApp
import Derived.Test.YthemmbdhhjelcaaFair
namespace Go.Proofs.Ythemmbdhhjelcaa
open Go.RowKit

/-- a list of two lists, in a new block -/
theorem rdm_two {W : World} {n : Nat} {A B : Option Addr} {c d : Nat} {xs ys : List Int} {e : TypeId} (hn : n = W.heap.size) (ha : Rd W A xs) (hb : Rd W B ys) :
    RdM .i64 (W.alloc (.cells #[.slice A xs.length c, .slice B ys.length d] e)) (some ⟨n, 0, none⟩) [xs, ys] := by
  subst hn
  have hbl : Below W.heap.size W (W.alloc (.cells #[.slice A xs.length c, .slice B ys.length d] e)) := (Below.refl _ _).alloc (Nat.le_refl _) _
  refine ⟨by simp, fun _ => ⟨_, rfl, fun i hi => ?_⟩⟩
  have hc := cell_two_new W (.slice A xs.length c) (.slice B ys.length d) e
  match i, hi with
  | 0, _ => exact ⟨A, c, hc 0 _ rfl, ha.keep hbl⟩
  | 1, _ => exact ⟨B, d, hc 1 _ rfl, hb.keep hbl⟩

/-- the first j lists in one -/
def fl (xss : List (List Int)) (j : Nat) : List Int := (xss.take j).flatten
theorem fl_succ (xss : List (List Int)) (j : Nat) (h : j < xss.length) : fl xss (j + 1) = fl xss j ++ xss.getD j [] := by
  unfold fl
  rw [List.take_succ_eq_append_getElem h, List.flatten_append]
  simp [List.getD_eq_getElem?_getD, List.getElem?_eq_getElem h]
theorem fl_le (xss : List (List Int)) (j : Nat) : (fl xss j).length ≤ (fl xss xss.length).length := by
  unfold fl
  rw [List.take_length]
  conv => rhs; rw [← List.take_append_drop j xss, List.flatten_append, List.length_append]
  omega
set_option maxHeartbeats 400000 in
theorem join_any (A : Option Addr) (c : Nat) (xss : List (List Int)) (w : World) (h : RdM .i64 w A xss) (hb : (fl xss xss.length).length ≤ 1000000000) :
    Calls Try.prog 26 #[.slice A xss.length c] w fun e w' => ∃ v, e = .returned v ∧ w'.ownsRow w.heap.size 3 1 v (fl xss xss.length).length ((fl xss xss.length).map (.int .i64)) ∧ Below w.heap.size w w' := by
  have hm := h.1
  go_enter Try.func26, Try.ntmps26
  go_wp2
  go_loopw [3, 4] (fun v i wr => ∃ (j : Nat) (B : Option Addr) (e : Nat), j ≤ xss.length ∧ i = .int .i64 j ∧ v = .slice B (fl xss j).length e ∧ wr.ownsRow w.heap.size 3 1 (.slice B (fl xss j).length e) (fl xss j).length ((fl xss j).map (.int .i64)) ∧ Below w.heap.size w wr) (fun _ i _ => xss.length - (intOf i).toNat)
  case atStart => exact ⟨0, none, 0, Nat.zero_le _, rfl, rfl, World.ownsRow_nil _ _ _ _, Below.refl _ _⟩
  case round =>
    obtain ⟨j, B, e, hj, rfl, rfl, hown, hbel⟩ := hrel
    by_cases hjl : j < xss.length
    · obtain ⟨ad, C, d, xs, rfl, hx, hc, hrx⟩ := (h.keep hbel).at_ hjl
      have hfl := fl_succ xss j hjl
      have hle := fl_le xss (j + 1)
      rw [hx] at hfl
      rw [hfl, List.length_append] at hle
      have HF := Lib.hid hfl
      clear hfl hx
      go_wp2_with (at_builtin; refine appN rfl (.tmp 11) (.tmp 15) 32 3 _ _ rfl Try.underlying32 info3 rfl (by decide) rfl rfl (List.length_map _) hown hrx.vals (ints_one _ _) (by omega) hbel.size ?_; intro v' w' hown' hb' hsz'; obtain ⟨A', c', rfl⟩ := own_slice hown')
      go_roundw
      case rel =>
        refine ⟨j + 1, A', c', by omega, by go_num, ?_, ?_, hb' _ _ (Nat.le_refl _) hbel⟩
        · rw [HF.out, List.length_append]
        · rw [HF.out, List.length_append, List.map_append]; exact hown'
      case measure => simp [intOf]; omega
    · obtain rfl : j = xss.length := by omega
      go_wp2
      go_ret
      exact ⟨_, rfl, hown, hbel⟩

theorem word_pI (s : Nat) (x y : Int) (k n : Nat) (w : World) (hx : x = k) (hy : y = n) (hs : s < 18446744073709551616) (hk1 : 1 ≤ k) (hk2 : k ≤ 1024) (hn : n ≤ 1024) :
    Calls Try.prog 24 #[.int .u64 s, .int .i64 x, .int .i64 y] w fun e w' => ∃ A c, e = .returned (.tuple #[.slice A n c, .int .u64 (Rnd.st s k n), .int .i64 0]) ∧ w'.ownsRow w.heap.size 3 1 (.slice A n c) n ((Rnd.wl s k n).map (.int .i64)) ∧ Below w.heap.size w w' := by
  subst hx; subst hy
  refine (word_p s k n w hs hk1 hk2 hn).mono fun e w' ⟨v, he, ho, hb⟩ => ?_
  obtain ⟨A, c, rfl⟩ := own_slice ho
  exact ⟨A, c, he, ho, hb⟩

set_option maxRecDepth 100000 in
set_option maxHeartbeats 4000000 in
theorem randomParts_walk (w : World) (a0 a1 a2 a3 : Int) (w0 : (Lit.int .u64 a0).wf = true) (w1 : (Lit.int .u8 a1).wf = true) (w2 : (Lit.int .u8 a2).wf = true) (w3 : (Lit.int .u8 a3).wf = true) :
    Calls Try.prog 8 #[.agg #[.int .u64 a0, .int .u8 a1, .int .u8 a2, .int .u8 a3]] w fun e w' => e = .returned (.bool true) ∧ Below w.heap.size w w' := by
  obtain ⟨s, rfl, hs⟩ := u64_nat w0
  have hb1 := bounds_u8 w1
  have hb2 := bounds_u8 w2
  have hb3 := bounds_u8 w3
  obtain ⟨k, rfl⟩ : ∃ k : Nat, a1 = k := ⟨a1.toNat, by omega⟩
  obtain ⟨a, ha⟩ : ∃ k : Nat, a2 % 64 = k := ⟨(a2 % 64).toNat, by omega⟩
  obtain ⟨b, hb⟩ : ∃ k : Nat, a3 % 64 = k := ⟨(a3 % 64).toNat, by omega⟩
  have ha64 : a < 64 := by omega
  have hb64 : b < 64 := by omega
  clear w0 w1 w2 w3
  go_enter Try.func8, Try.ntmps8
  go_wp2_with fail
  go_quiet (fail)
  go_wp2_with fail
  try rw [ha]
  try rw [hb]
  clear ha hb hb2 hb3
  refine (word_pI s _ _ (k + 1) a _ (by omega) rfl hs (by omega) (by omega) (by omega)).mono ?_
  rintro e u1 ⟨A, c1, rfl, ho1, hbe1⟩
  go_wp2_with fail
  refine (word_pI _ _ _ (k + 1) b _ (by omega) rfl (Rnd.st_lt s (k + 1) hs a) (by omega) (by omega) (by omega)).mono ?_
  rintro e u2 ⟨B, c2, rfl, ho2, hbe2⟩
  go_wp2_with fail
  refine (word_pI s _ _ (k + 1) (a + b) _ (by omega) (by omega) hs (by omega) (by omega) (by omega)).mono ?_
  rintro e u3 ⟨C, c3, rfl, ho3, hbe3⟩
  have hw0 : Below w.heap.size w u1 := by
    have := below_drewN' ((Below.refl w.heap.size w).alloc (Nat.le_refl _) (.cells #[.int .u64 s, .int .u8 k, .int .u8 a2, .int .u8 a3] 48)) nq
    exact below_seq this hbe1
  have hw3 : Below w.heap.size w u3 := below_seq (below_seq hw0 hbe2) hbe3
  obtain ⟨hl1, hr1⟩ := own_rd (own_keep (own_keep ho1 hbe2) hbe3) (by omega)
  obtain ⟨hl2, hr2⟩ := own_rd (own_keep ho2 hbe3) (by omega)
  obtain ⟨hl3, hr3⟩ := own_rd ho3 (by omega)
  have hst : Rnd.st (Rnd.st s (k + 1) a) (k + 1) b = Rnd.st s (k + 1) (a + b) := (Rnd.st_add s (k + 1) a b).symm
  rw [hst]
  have hfl : fl [Rnd.wl s (k + 1) a, Rnd.wl (Rnd.st s (k + 1) a) (k + 1) b] 2 = Rnd.wl s (k + 1) (a + b) := by
    rw [Rnd.wl_add]; simp [fl]
  have HFL := Lib.hid hfl
  have HL1 := Lib.hid hl1
  have HL2 := Lib.hid hl2
  have HL3 := Lib.hid hl3
  clear hfl hst hl1 hl2 hl3 ho1 ho2 hbe1 hbe2 hbe3 hw0
  go_wp2_with fail
  have hjoin := join_any (some ⟨u3.heap.size, 0, none⟩) 2 _ (u3.alloc (.cells #[.slice A (Rnd.wl s (k + 1) a).length c1, .slice B (Rnd.wl (Rnd.st s (k + 1) a) (k + 1) b).length c2] 32)) (rdm_two rfl hr1 hr2) (by
    show (fl _ 2).length ≤ _
    rw [HFL.out, HL3.out]; omega)
  rw [HL1.out, HL2.out] at hjoin
  refine hjoin.mono ?_
  clear hjoin
  rintro e u4 ⟨v, rfl, ho4, hbe4⟩
  rw [show fl [Rnd.wl s (k + 1) a, Rnd.wl (Rnd.st s (k + 1) a) (k + 1) b] [Rnd.wl s (k + 1) a, Rnd.wl (Rnd.st s (k + 1) a) (k + 1) b].length = Rnd.wl s (k + 1) (a + b) from HFL.out, HL3.out] at ho4
  obtain ⟨D, c4, rfl⟩ := own_slice ho4
  go_wp2_with fail
  refine (same_own (own_keep (ho3.alloc _) hbe4) ho4 (by omega)).mono ?_
  rintro e u5 ⟨rfl, m, rfl⟩
  go_wp2_with fail
  have hk4 : Below u3.heap.size u3 u4 := below_seq ((Below.refl _ _).alloc (Nat.le_refl _) _) hbe4
  have hr4 : Rd (u4.drewN m) C (Rnd.wl s (k + 1) (a + b)) := (hr3.keep hk4).drewN m
  have hw4 : Below w.heap.size w u4 := below_seq hw3 hk4
  clear hr1 hr2 hr3 hk4 hbe4 ho3 ho4 hw3
  go_loop [19, 20] (fun x i => ∃ j : Nat, j ≤ a + b ∧ i = .int .i64 j ∧ x = .int .u64 (Rnd.st s (k + 1) j)) (fun _ i => a + b - (intOf i).toNat)
  case atStart => exact ⟨0, Nat.zero_le _, rfl, rfl⟩
  case round =>
    obtain ⟨j, hj, rfl, rfl⟩ := hrel
    by_cases hjl : j < a + b
    · obtain ⟨ad, x, rfl, hx, ca⟩ := hr4.at_ (i := j) (by rw [HL3.out]; exact hjl)
      rw [Rnd.wl_get s (k + 1) (a + b) hjl] at hx
      obtain ⟨y, hy⟩ : ∃ y, y = Rnd.dr s (k + 1) j := ⟨_, rfl⟩
      rw [← hy] at hx
      subst hx
      have hyl : y < k + 1 := hy ▸ Rnd.bel_lt _ _ (by omega)
      have hyl' : (y : Int) < 1 + k := by omega
      have hstl := Rnd.st_lt s (k + 1) hs j
      have hne := Rnd.bel_ne (Rnd.st s (k + 1) j) (k + 1) hstl (by omega) (by omega)
      obtain ⟨z, hz⟩ : ∃ z, z = Rnd.st s (k + 1) (j + 1) := ⟨_, rfl⟩
      have hz' : (Rnd.bel (Rnd.st s (k + 1) j) (k + 1)).2 = z := by rw [hz]; rfl
      have hy' : (Rnd.bel (Rnd.st s (k + 1) j) (k + 1)).1 = y := by rw [hy]; rfl
      rw [hz'] at hne
      have hne' : ((z : Int) == (Rnd.st s (k + 1) j : Int)) = false := by simp; omega
      have HY := Lib.hid hy'
      have HZ := Lib.hid hz'
      have HZ2 := Lib.hid hz
      clear hy hz hz' hy' hne hr4
      go_wp2_with (go_at_call 16; refine (below_pI _ _ _ (k + 1) (by omega) hstl (by omega) (by omega)).mono ?_; rintro e w' ⟨rfl, rfl⟩; rw [HY.out, HZ.out])
      go_round
      case rel => exact ⟨j + 1, by omega, by go_num, by rw [HZ2.out]⟩
      case measure => simp [intOf]; omega
    · obtain rfl : j = a + b := by omega
      go_wp2_with (go_at_call 18; refine (awake4 _).mono ?_; rintro e' w' ⟨rfl, hb3⟩)
      go_ret
      exact ⟨rfl, below_seq (below_drewN' hw4 m) hb3⟩
end Go.Proofs.Ythemmbdhhjelcaa
