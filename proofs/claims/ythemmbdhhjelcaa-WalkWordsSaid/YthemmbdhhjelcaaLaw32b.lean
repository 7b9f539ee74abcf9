/- The walks of the statements WalkFollows and WalkFirst. -/
import Derived.Test.YthemmbdhhjelcaaLaw32
namespace Go.Proofs.Ythemmbdhhjelcaa
open Go.RowKit

theorem ownm_rd {w : World} {base e1 e2 n : Nat} {A : Option Addr} {c : Nat} {xss : List (List Int)} (hl : xss.length = n) (hn : n ≤ 10001) (hm : ∀ i, i < n → (xss.getD i []).length ≤ 1152921504606846976) (h : OwnM w base e1 e2 (.slice A n c) xss) : RdM .i64 w A xss := by
  subst hl; exact h.rd (by omega) hm
set_option maxHeartbeats 1000000 in
theorem equal8 (A B : Option Addr) (c d : Nat) (xs : List Int) (w : World) (ha : Rd w A xs) (hb : Rd w B xs) :
    Calls Try.prog 36 #[.slice A xs.length c, .slice B xs.length d] w fun e w' => e = .returned (.bool true) ∧ ∃ n, w' = w.drewN n := by
  have ml := ha.1
  have b1 : ((xs.length : Int) != (xs.length : Int)) = false := by simp
  go_enter Try.func36, Try.ntmps36
  go_wp2
  go_loopw [5] (fun i wr => ∃ a m' : Nat, a ≤ xs.length ∧ i = .int .i64 a ∧ wr = w.drewN m') (fun i _ => xs.length - (intOf i).toNat)
  case atStart => exact ⟨0, 0, Nat.zero_le _, rfl, rfl⟩
  case round =>
    obtain ⟨a, m', ha', rfl, rfl⟩ := hrel
    by_cases hax : a < xs.length
    · obtain ⟨ad3, t, rfl, ht, ct⟩ := ha.at_ hax
      obtain ⟨ad4, u, rfl, hu, cu⟩ := hb.at_ hax
      obtain rfl : t = u := ht.symm.trans hu
      have b2 : (t != t) = false := by simp
      clear ht hu
      go_wp2_with fail
      go_quiet (fail)
      go_wp2
      go_roundw
      case rel => exact ⟨a + 1, _, by omega, by go_num, rfl⟩
      case measure => simp [intOf] <;> omega
    · obtain rfl : a = xs.length := by omega
      go_wp2
      go_ret
      exact ⟨rfl, _, rfl⟩
theorem equal8_own {w : World} {n : Nat} {A B : Option Addr} {c d : Nat} {xs : List Int} (hl : xs.length = n) (ha : Rd w A xs) (hb : Rd w B xs) :
    Calls Try.prog 36 #[.slice A n c, .slice B n d] w fun e w' => e = .returned (.bool true) ∧ Below w.heap.size w w' := by
  subst hl
  exact (equal8 A B c d xs w ha hb).mono fun _ _ ⟨he, n, hw⟩ => ⟨he, hw ▸ below_drewN' (Below.refl _ _) n⟩
theorem suite_pI (s : Nat) (x : Int) (k n len : Nat) (w : World) (hx : x = k) (hs : s < 18446744073709551616) (hk1 : 1 ≤ k) (hk2 : k ≤ 64) (hn : n ≤ 10000) (hl : len ≤ 1024) :
    Calls Try.prog 29 #[.int .u64 s, .int .i64 x, .int .i64 n, .int .i64 len] w fun e w' => ∃ A c, e = .returned (.tuple #[.slice A n c, .int .i64 0]) ∧ OwnM w' w.heap.size 32 3 (.slice A n c) (Rnd.su s k len n) ∧ Below w.heap.size w w' := by
  subst hx; exact suite_p s k n len w hs hk1 hk2 hn hl

set_option maxRecDepth 100000 in
set_option maxHeartbeats 2000000 in
theorem walkFollows_walk (w : World) (a0 a1 a2 a3 : Int) (w0 : (Lit.int .u8 a0).wf = true) (w1 : (Lit.int .u64 a1).wf = true) (_w2 : (Lit.int .i64 a2).wf = true) (_w3 : (Lit.int .i64 a3).wf = true) :
    Calls Try.prog 12 #[.int .u8 a0, .agg #[.int .u64 a1, .int .i64 a2, .int .i64 a3]] w fun e w' => e = .returned (.bool true) ∧ Below w.heap.size w w' := by
  obtain ⟨s, rfl, hs⟩ := u64_nat w1
  have hb0 := bounds_u8 w0
  have hbx : Below w.heap.size w (w.alloc (.cells #[.int .u64 s, .int .i64 a2, .int .i64 a3] 53)) := (Below.refl _ _).alloc (Nat.le_refl _) _
  by_cases h1 : a0 < 1
  · go_enter Try.func12, Try.ntmps12
    go_wp2_with (go_at_call 28; refine (wake32 _).mono ?_; rintro e v4 ⟨rfl, hb4⟩)
    go_ret
    exact ⟨rfl, below_seq hbx hb4⟩
  by_cases h2 : 64 < a0
  · go_enter Try.func12, Try.ntmps12
    go_wp2_with (go_at_call 28; refine (wake32 _).mono ?_; rintro e v4 ⟨rfl, hb4⟩)
    go_ret
    exact ⟨rfl, below_seq hbx hb4⟩
  by_cases h3 : a2 < 0
  · go_enter Try.func12, Try.ntmps12
    go_wp2_with (go_at_call 28; refine (wake32 _).mono ?_; rintro e v4 ⟨rfl, hb4⟩)
    go_ret
    exact ⟨rfl, below_seq hbx hb4⟩
  by_cases h4 : 10 < a2
  · go_enter Try.func12, Try.ntmps12
    go_wp2_with (go_at_call 28; refine (wake32 _).mono ?_; rintro e v4 ⟨rfl, hb4⟩)
    go_ret
    exact ⟨rfl, below_seq hbx hb4⟩
  by_cases h5 : a3 < 0
  · go_enter Try.func12, Try.ntmps12
    go_wp2_with (go_at_call 28; refine (wake32 _).mono ?_; rintro e v4 ⟨rfl, hb4⟩)
    go_ret
    exact ⟨rfl, below_seq hbx hb4⟩
  by_cases h6 : 60 < a3
  · go_enter Try.func12, Try.ntmps12
    go_wp2_with (go_at_call 28; refine (wake32 _).mono ?_; rintro e v4 ⟨rfl, hb4⟩)
    go_ret
    exact ⟨rfl, below_seq hbx hb4⟩
  obtain ⟨k, rfl⟩ : ∃ k : Nat, a0 = k := ⟨a0.toNat, by omega⟩
  obtain ⟨n, rfl⟩ : ∃ k : Nat, a2 = k := ⟨a2.toNat, by omega⟩
  obtain ⟨len, rfl⟩ : ∃ k : Nat, a3 = k := ⟨a3.toNat, by omega⟩
  have wb0 := WB.new w w.heap.size s n len 53 rfl
  clear w0 w1
  go_enter Try.func12, Try.ntmps12
  go_wp2_with fail
  refine (suite_pI s _ k n len _ rfl hs (by omega) (by omega) (by omega) (by omega)).mono ?_
  rintro e v1 ⟨A, c, rfl, ho1, hb1⟩
  have wb1 := wb0.keep hb1
  have hw1 := below_seq hbx hb1
  have hb1n : ((n : Int) != (n : Int)) = false := by simp
  clear wb0 hb1 hbx
  obtain ⟨x0, x1, x2⟩ := wb1
  have hl0 := Rnd.su_len s k len n
  have hR := ownm_rd hl0 (by omega) (fun i hi => by rw [Rnd.su_get _ _ _ _ hi, Rnd.wl_len]; omega) ho1
  have HL0 := Lib.hid hl0
  clear ho1 hl0
  go_wp2
  have hw1s : w.heap.size < v1.heap.size := World.block_lt_of_cell? _ _ x0
  go_loopw [7, 64] (fun u i wr => ∃ j : Nat, j ≤ n ∧ i = .int .i64 j ∧ u = .int .u64 (Rnd.st s k (j * len)) ∧ Below v1.heap.size v1 wr) (fun _ i _ => n - (intOf i).toNat)
  case atStart => exact ⟨0, Nat.zero_le _, rfl, by simp [Rnd.st], Below.refl _ _⟩
  case round =>
    obtain ⟨j, hj, rfl, rfl, hbel⟩ := hrel
    have y2 := (hbel.cell (p := ⟨w.heap.size, 2, none⟩) hw1s).trans x2
    by_cases hjn : j < n
    · have hsl := Rnd.st_lt s k hs (j * len)
      have HM := Lib.hid (Rnd.st_mul s k len j)
      have HV := Lib.hid hR
      have HSG := Lib.hid (Rnd.su_get s k len n hjn)
      clear hR
      go_wp2_with fail
      refine (word_pI _ _ _ k len _ rfl rfl hsl (by omega) (by omega) (by omega)).mono ?_
      rintro e v2 ⟨B, d, rfl, ho2, hb2⟩
      rw [HM.out]
      have hbel2 := below_seq hbel hb2
      have rM := HV.out.keep hbel2
      obtain ⟨ad, C, f, xs, rfl, hx, cx, rx⟩ := rM.at_ (i := j) (by rw [HL0.out]; exact hjn)
      have hxe : xs = Rnd.wl (Rnd.st s k (j * len)) k len := by rw [← hx, HSG.out]
      have hxl : xs.length = len := by rw [hxe, Rnd.wl_len]
      have rw2 : Rd v2 B xs := by rw [hxe]; exact (own_rd ho2 (by omega)).2
      rw [hxl] at cx
      have HXL := Lib.hid hxl
      clear hxe hxl hx rM
      go_wp2_with fail
      refine (equal8_own HXL.out rw2 rx).mono ?_
      rintro e v3 ⟨rfl, hb3⟩
      go_wp2
      go_roundw
      case rel => exact ⟨j + 1, by omega, by go_num, rfl, below_seq hbel2 hb3⟩
      case measure => simp [intOf] <;> omega
    · go_wp2_with (go_at_call 28; refine (wake32 _).mono ?_; rintro e v4 ⟨rfl, hb4⟩)
      go_ret
      exact ⟨rfl, below_seq (below_seq hw1 hbel) hb4⟩

theorem guided_pI (k S seed : Nat) (x y : Int) (cnt len : Nat) (A B : Option Addr) (c d : Nat) (nx out : List (List Int)) (w : World) (hN : RdM .i64 w A nx) (hO : RdM .i64 w B out)
    (hx : x = cnt) (hy : y = len) (ok : Mea.Ok k S nx out) (hseed : seed < 18446744073709551616) (hcnt : cnt ≤ 10000) (hlen : len ≤ 1024) :
    Calls Try.prog 33 #[.agg #[.int .i64 k, .int .i64 S, .slice A nx.length c, .slice B out.length d], .int .u64 seed, .int .i64 x, .int .i64 y] w fun e w' =>
      ∃ C f, e = .returned (.tuple #[.slice C cnt f, .int .i64 0]) ∧ OwnM w' w.heap.size 32 3 (.slice C cnt f) (Gd.gl k nx S len seed cnt) ∧ Below w.heap.size w w' := by
  subst hx; subst hy; exact guided_p k S seed cnt len A B c d nx out w hN hO ok hseed hcnt hlen
theorem suite_pJ (s : Nat) (x y z : Int) (k n len : Nat) (w : World) (hx : x = k) (hy : y = n) (hz : z = len) (hs : s < 18446744073709551616) (hk1 : 1 ≤ k) (hk2 : k ≤ 64) (hn : n ≤ 10000) (hl : len ≤ 1024) :
    Calls Try.prog 29 #[.int .u64 s, .int .i64 x, .int .i64 y, .int .i64 z] w fun e w' => ∃ A c, e = .returned (.tuple #[.slice A n c, .int .i64 0]) ∧ OwnM w' w.heap.size 32 3 (.slice A n c) (Rnd.su s k len n) ∧ Below w.heap.size w w' := by
  subst hx; subst hy; subst hz; exact suite_p s k n len w hs hk1 hk2 hn hl
theorem choose_pI (s n : Nat) (A : Option Addr) (c : Nat) (xs : List Int) (w : World) (hl : xs.length = n) (h : Rd w A xs) (hs : s < 18446744073709551616) :
    Calls Try.prog 22 #[.int .u64 s, .slice A n c] w fun e w' => e = .returned (.tuple #[.int .i64 (Rnd.chv s xs).1, .int .u64 (Rnd.chv s xs).2.1, .int .i64 (Rnd.chv s xs).2.2]) ∧ w = w' := by
  subst hl; exact choose_p s A c xs w h hs
theorem ws_F (S k : Nat) : Gd.ws (fun _ _ => false) S (k + 1) = Gd.ws (fun _ _ => false) S k ++ [8] := by simp [Gd.ws, List.range_succ]

set_option maxRecDepth 100000 in
set_option maxHeartbeats 4000000 in
theorem walkFirst_walk (w : World) (I S : Int) (A : Option Addr) (c : Nat) (nx : List (List Int)) (B : Option Addr) (d : Nat) (out : List (List Int)) (a4 a5 : Int)
    (_w0 : (Lit.int .i64 I).wf = true) (_w1 : (Lit.int .i64 S).wf = true) (hN : RdM .i64 w A nx) (_w2 : WfM .i64 nx) (hO : RdM .i64 w B out) (_w3 : WfM .i64 out) (w4 : (Lit.int .u64 a4).wf = true) (w5 : (Lit.int .u8 a5).wf = true) :
    Calls Try.prog 11 #[.agg #[.int .i64 I, .int .i64 S, .slice A nx.length c, .slice B out.length d], .int .u64 a4, .int .u8 a5] w fun e w' => e = .returned (.bool true) ∧ Below w.heap.size w w' := by
  obtain ⟨s, rfl, hs⟩ := u64_nat w4
  have hb5 := bounds_u8 w5
  obtain ⟨len, rfl⟩ : ∃ k : Nat, a5 = k := ⟨a5.toNat, by omega⟩
  obtain ⟨i3, hi3, hz03, hz13, hz23⟩ := info_parts info3
  have hbx : Below w.heap.size w (w.alloc (.cells #[.int .i64 I, .int .i64 S, .slice A nx.length c, .slice B out.length d] 62)) := (Below.refl _ _).alloc (Nat.le_refl _) _
  have mb0 := MB.new w I S (.slice A nx.length c) (.slice B out.length d) 62
  have rN0 := hN.keep hbx
  have rO0 := hO.keep hbx
  clear hN hO w4 w5
  go_enter Try.func11, Try.ntmps11
  go_wp2_with fail
  refine (great_any I S A B c d nx out _ rN0 rO0).mono ?_
  rintro e v1 ⟨b1, rfl, hb1⟩
  have mb1 := mb0.keep hb1
  have rN1 := rN0.keep hb1
  have rO1 := rO0.keep hb1
  have hw1 := below_seq hbx hb1
  clear mb0 rN0 rO0 hb1 hbx
  cases b1
  rotate_left
  · go_wp2_with (go_at_call 28; refine (wake32 _).mono ?_; rintro e v4 ⟨rfl, hb4⟩)
    go_ret
    exact ⟨rfl, below_seq hw1 hb4⟩
  · obtain ⟨m0, m1, m2, m3⟩ := mb1
    go_wp2_with fail
    refine (rvalid I S A B c d nx out _ rN1 rO1).mono ?_
    rintro e v2 ⟨rfl, hb2⟩
    have mb2 := (MB.mk m0 m1 m2 m3).keep hb2
    have rN2 := rN1.keep hb2
    have rO2 := rO1.keep hb2
    have hw2 := below_seq hw1 hb2
    clear m0 m1 m2 m3 rN1 rO1 hb2 hw1
    by_cases hv : Mea.validE I S nx out = 0
    rotate_left
    · obtain ⟨q, hq⟩ : ∃ q, q = Mea.validE I S nx out := ⟨_, rfl⟩
      rw [← hq] at hv ⊢
      have hbq : (q != 0) = true := by rw [bne_iff_ne]; exact hv
      clear hq hv
      go_wp2_with (go_at_call 28; refine (wake32 _).mono ?_; rintro e v4 ⟨rfl, hb4⟩)
      go_ret
      exact ⟨rfl, below_seq hw2 hb4⟩
    · obtain ⟨k, t, rfl, rfl, ok⟩ := Mea.ok_of hv
      rw [hv]
      have k1 := ok.k1
      have k64 := ok.k64
      have OK := Lib.hid ok
      clear hv ok
      by_cases hl1 : (60 : Int) < len
      · go_wp2_with (go_at_call 28; refine (wake32 _).mono ?_; rintro e v4 ⟨rfl, hb4⟩)
        go_ret
        exact ⟨rfl, below_seq hw2 hb4⟩
      by_cases hl2 : len = 0
      · have hbl : ((len : Int) == 0) = true := by simp [hl2]
        clear hl2
        go_wp2_with (go_at_call 28; refine (wake32 _).mono ?_; rintro e v4 ⟨rfl, hb4⟩)
        go_ret
        exact ⟨rfl, below_seq hw2 hb4⟩
      have hbl : ((len : Int) == 0) = false := beq_eq_false_iff_ne.2 (by omega)
      have hlp : 1 ≤ len := by omega
      have hl60 : len ≤ 60 := by omega
      clear hl2
      obtain ⟨m0, m1, m2, m3⟩ := mb2
      go_wp2_with fail
      refine (suite_pJ s _ _ _ k 1 len _ rfl rfl rfl hs k1 k64 (by omega) (by omega)).mono ?_
      rintro e v3 ⟨L, f3, rfl, ho3, hb3⟩
      have mb3 := (MB.mk m0 m1 m2 m3).keep hb3
      have rN3 := rN2.keep hb3
      have rO3 := rO2.keep hb3
      have hw3 := below_seq hw2 hb3
      have rL3 := ownm_rd (Rnd.su_len _ _ _ _) (by omega) (fun i hi => by rw [Rnd.su_get _ _ _ _ hi, Rnd.wl_len]; omega) ho3
      clear m0 m1 m2 m3 rN2 rO2 hb3 hw2 ho3
      obtain ⟨m0, m1, m2, m3⟩ := mb3
      go_wp2_with fail
      refine (word_pI s _ _ k len _ rfl rfl hs k1 (by omega) (by omega)).mono ?_
      rintro e v4 ⟨W, f4, rfl, ho4, hb4⟩
      have mb4 := (MB.mk m0 m1 m2 m3).keep hb4
      have rN4 := rN3.keep hb4
      have rO4 := rO3.keep hb4
      have hw4 := below_seq hw3 hb4
      have rL4 := rL3.keep hb4
      have rW4 := (own_rd ho4 (by omega)).2
      clear m0 m1 m2 m3 rN3 rO3 hb4 hw3 ho4 rL3
      obtain ⟨m0, m1, m2, m3⟩ := mb4
      go_wp2_with fail
      refine (guided_pI k t s _ _ 1 len A B c d nx out _ rN4 rO4 rfl rfl OK.out hs (by omega) (by omega)).mono ?_
      rintro e v5 ⟨G, f5, rfl, ho5, hb5⟩
      obtain ⟨z0, z1, z2, z3⟩ := (MB.mk m0 m1 m2 m3).keep hb5
      have hw5 := below_seq hw4 hb5
      have rL5 := rL4.keep hb5
      have rW5 := rW4.keep hb5
      have rG5 := ownm_rd (Gd.gl_len _ _ _ _ _ _) (by omega) (fun i hi => by rw [Gd.gl_get _ _ _ _ _ _ hi, Gd.gword_len]; omega) ho5
      clear m0 m1 m2 m3 rN4 rO4 hb5 hw4 ho5 rL4 rW4
      go_wp2
      go_loopw [14, 63] (fun v i wr => ∃ (j : Nat) (D : Option Addr) (f : Nat), j ≤ k ∧ i = .int .i64 j ∧ v = .slice D j f ∧ Hid (wr.ownsRow v5.heap.size 3 1 (.slice D j f) j ((Gd.ws (fun _ _ => false) t j).map (.int .i64))) ∧ Below v5.heap.size v5 wr) (fun _ i _ => k - (intOf i).toNat)
      case atStart => exact ⟨0, none, 0, Nat.zero_le _, rfl, rfl, World.ownsRow_nil _ _ _ _, Below.refl _ _⟩
      case round =>
        obtain ⟨j, D, f, hj, rfl, rfl, HW, hbel⟩ := hrel
        by_cases hjk : j < k
        · have HF := Lib.hid (ws_F t j)
          go_wp2_with (at_builtin; refine app1 rfl (.tmp 65) (.tmp 66) 32 3 _ _ rfl Try.underlying32 info3 rfl (by decide) rfl rfl HW.out rfl (by omega) hbel.size ?_; intro v' w4 hown' hb' hsz'; obtain ⟨E', g', rfl⟩ := own_slice hown'; have HB4 := Lib.hid hb'; clear hb')
          go_roundw
          case rel => exact ⟨j + 1, E', g', by omega, by go_num, rfl, by rw [HF.out, List.map_append]; exact hown', HB4.out _ _ (Nat.le_refl _) hbel⟩
          case measure => simp [intOf] <;> omega
        · have hbk' : k = j := by omega
          subst hbk'
          have hch := choose_pI s k D f _ wr (Gd.ws_len _ _ _) (own_rd HW.out (by omega)).2 hs
          rw [show Rnd.chv s (Gd.ws (fun _ _ => false) t k) = _ from Gd.chv_ws k (s, fun _ _ => false, t) k1 k64] at hch
          obtain ⟨a, ha⟩ : ∃ a, a = Gd.gpick k (s, fun _ _ => false, t) := ⟨_, rfl⟩
          rw [← ha] at hch
          have HCH := Lib.hid hch
          obtain ⟨adL, CL, fL, xL, rfl, hxL, cL, rxL⟩ := (rL5.keep hbel).at_ (i := 0) (by rw [Rnd.su_len]; omega)
          rw [Rnd.su_get _ _ _ _ (by omega), Nat.zero_mul] at hxL
          have hxL' : Rnd.wl s k len = xL := hxL
          obtain ⟨adG, CG, fG, xG, rfl, hxG, cG, rxG⟩ := (rG5.keep hbel).at_ (i := 0) (by rw [Gd.gl_len]; omega)
          rw [Gd.gl_get _ _ _ _ _ _ (by omega)] at hxG
          have hlG : xG.length = len := by rw [← hxG, Gd.gword_len]
          obtain ⟨ad0, y, rfl, hy, cy⟩ := rxG.at_ (i := 0) (by omega)
          have hya : y = (a : Int) := by
            rw [← hy, ← hxG, ha, Gd.gword, List.getD_eq_getElem?_getD, List.getElem?_map, List.getElem?_range (by omega)]; rfl
          have hlL : xL.length = len := by rw [← hxL', Rnd.wl_len]
          rw [hlG] at cG
          rw [hlL] at cL
          rw [hya] at cy
          have rWr := rW5.keep hbel
          rw [hxL'] at rWr
          have hadL : adL.add 0 = adL := by simp [Addr.add]
          have hadG : adG.add 0 = adG := by simp [Addr.add]
          have had0 : ad0.add 0 = ad0 := by simp [Addr.add]
          rw [hadL] at cL
          rw [hadG] at cG
          rw [had0] at cy
          have HLL := Lib.hid hlL
          have hnn : ((len : Int) != (len : Int)) = false := by simp
          have hlp' : (0 : Int) < len := by omega
          clear hxL hxL' hxG hlG hy hya hlL hadL hadG had0 hch ha HW rL5 rG5 rW5 hbl
          go_wp2_with fail
          refine HCH.out.mono ?_
          rintro e v6 ⟨rfl, rfl⟩
          go_wp2_with fail
          refine (equal8_own HLL.out rxL rWr).mono ?_
          rintro e v7 ⟨rfl, hb7⟩
          have cG7 := (hb7.cell (World.block_lt_of_cell? _ _ cG)).trans cG
          have cy7 := (hb7.cell (World.block_lt_of_cell? _ _ cy)).trans cy
          go_wp2_with (go_at_call 28; refine (wake32 _).mono ?_; rintro e v8 ⟨rfl, hb8⟩)
          go_ret
          exact ⟨rfl, below_seq (below_seq (below_seq hw5 hbel) hb7) hb8⟩
end Go.Proofs.Ythemmbdhhjelcaa
