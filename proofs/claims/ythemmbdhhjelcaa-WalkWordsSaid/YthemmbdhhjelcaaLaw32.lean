/- The walks of the statements WalkSuites, WalkGuides and WalkFollows. -/
import Derived.Test.YthemmbdhhjelcaaWake32
import Derived.Test.YthemmbdhhjelcaaLaw04b
import Derived.Test.YthemmbdhhjelcaaOpenS
namespace Go.Proofs.Ythemmbdhhjelcaa
open Go.RowKit

/-- some bool is returned, and nothing old is written -/
def AnyB (w : World) (e : Ending) (w' : World) : Prop := ∃ b : Bool, e = .returned (.bool b) ∧ Below w.heap.size w w'
set_option maxHeartbeats 400000 in
theorem few_any (s c l : Int) (w : World) : Calls Try.prog 27 #[.agg #[.int .u64 s, .int .i64 c, .int .i64 l]] w (AnyB w) := by
  by_cases h1 : c ≤ 30
  · by_cases h3 : l ≤ 60
    · go_enter Try.func27, Try.ntmps27
      go_wp2
      go_ret
      exact ⟨_, rfl, (Below.refl _ _).alloc (Nat.le_refl _) _⟩
    · go_enter Try.func27, Try.ntmps27
      go_wp2
      go_ret
      exact ⟨_, rfl, (Below.refl _ _).alloc (Nat.le_refl _) _⟩
  · by_cases h2 : 10000 < c
    · by_cases h3 : l ≤ 60
      · go_enter Try.func27, Try.ntmps27
        go_wp2
        go_ret
        exact ⟨_, rfl, (Below.refl _ _).alloc (Nat.le_refl _) _⟩
      · go_enter Try.func27, Try.ntmps27
        go_wp2
        go_ret
        exact ⟨_, rfl, (Below.refl _ _).alloc (Nat.le_refl _) _⟩
    · go_enter Try.func27, Try.ntmps27
      go_wp2
      go_ret
      exact ⟨_, rfl, (Below.refl _ _).alloc (Nat.le_refl _) _⟩

set_option maxHeartbeats 1000000 in
theorem great_any (I S : Int) (A B : Option Addr) (c d : Nat) (nx out : List (List Int)) (w : World) (hN : RdM .i64 w A nx) (hO : RdM .i64 w B out) :
    Calls Try.prog 32 #[.agg #[.int .i64 I, .int .i64 S, .slice A nx.length c, .slice B out.length d]] w (AnyB w) := by
  have hm := hN.1
  have ho := hO.1
  have hbx : Below w.heap.size w (w.alloc (.cells #[.int .i64 I, .int .i64 S, .slice A nx.length c, .slice B out.length d] 62)) := (Below.refl _ _).alloc (Nat.le_refl _) _
  by_cases h1 : 12 < nx.length
  · have h1' : (12 : Int) < nx.length := by omega
    go_enter Try.func32, Try.ntmps32
    go_wp2
    go_ret
    exact ⟨_, rfl, hbx⟩
  have h1' : ¬ (12 : Int) < nx.length := by omega
  by_cases h2 : 12 < out.length
  · have h2' : (12 : Int) < out.length := by omega
    go_enter Try.func32, Try.ntmps32
    go_wp2
    go_ret
    exact ⟨_, rfl, hbx⟩
  have h2' : ¬ (12 : Int) < out.length := by omega
  by_cases h3 : 6 < I
  · go_enter Try.func32, Try.ntmps32
    go_wp2
    go_ret
    exact ⟨_, rfl, hbx⟩
  have rN := hN.keep hbx
  have rO := hO.keep hbx
  clear hN hO
  go_enter Try.func32, Try.ntmps32
  go_wp2
  obtain ⟨wb, hwb⟩ : ∃ wb, wb = w.alloc (.cells #[.int .i64 I, .int .i64 S, .slice A nx.length c, .slice B out.length d] 62) := ⟨_, rfl⟩
  have c3 : wb.cell? ⟨w.heap.size, 3, none⟩ = some (.slice B out.length d) := by rw [hwb, World.cell?_alloc_at (hn := rfl)]; rfl
  have c2 : wb.cell? ⟨w.heap.size, 2, none⟩ = some (.slice A nx.length c) := by rw [hwb, World.cell?_alloc_at (hn := rfl)]; rfl
  rw [← hwb]
  rw [← hwb] at hbx rN rO
  clear hwb
  go_loop [23] (fun i => ∃ j : Nat, j ≤ nx.length ∧ i = .int .i64 j) (fun i => nx.length - (intOf i).toNat)
  case atStart => exact ⟨0, Nat.zero_le _, rfl⟩
  case round =>
    obtain ⟨j, hj, rfl⟩ := hrel
    by_cases hjn : j < nx.length
    · obtain ⟨ad, C, e, xs, rfl, hx, cx, rx⟩ := rN.at_ hjn
      have mx := rx.1
      clear hx
      by_cases hl : 12 < xs.length
      · have hl' : (12 : Int) < xs.length := by omega
        go_wp2
        go_ret
        exact ⟨_, rfl, hbx⟩
      · have hl' : ¬ (12 : Int) < xs.length := by omega
        go_wp2
        go_round
        case rel => exact ⟨j + 1, by omega, by go_num⟩
        case measure => simp [intOf] <;> omega
    · go_wp2
      go_loop [37] (fun i => ∃ j : Nat, j ≤ out.length ∧ i = .int .i64 j) (fun i => out.length - (intOf i).toNat)
      case atStart => exact ⟨0, Nat.zero_le _, rfl⟩
      case round =>
        clear hj hjn
        obtain ⟨j, hj, rfl⟩ := hrel
        by_cases hjn : j < out.length
        · obtain ⟨ad, C, e, xs, rfl, hx, cx, rx⟩ := rO.at_ hjn
          have mx := rx.1
          clear hx
          by_cases hl : 12 < xs.length
          · have hl' : (12 : Int) < xs.length := by omega
            go_wp2
            go_ret
            exact ⟨_, rfl, hbx⟩
          · have hl' : ¬ (12 : Int) < xs.length := by omega
            go_wp2
            go_round
            case rel => exact ⟨j + 1, by omega, by go_num⟩
            case measure => simp [intOf] <;> omega
        · go_wp2
          go_ret
          exact ⟨_, rfl, hbx⟩

theorem same10_nil (w : World) : Calls Try.prog 31 #[.slice none 0 0, .slice none 0 0] w fun e w' => e = .returned (.bool true) ∧ Below w.heap.size w w' :=
  (same10 none none 0 0 [] w RdM.nil RdM.nil).mono fun _ _ ⟨he, n, hw⟩ => ⟨he, hw ▸ below_drewN' (Below.refl _ _) n⟩
theorem same10_own {w : World} {b1 b2 n : Nat} {A B : Option Addr} {c d : Nat} {xss : List (List Int)} (hl : xss.length = n) (hn : n ≤ 10001) (hm : ∀ i, i < xss.length → (xss.getD i []).length ≤ 1152921504606846976) (h1 : OwnM w b1 32 3 (.slice A n c) xss) (h2 : OwnM w b2 32 3 (.slice B n d) xss) :
    Calls Try.prog 31 #[.slice A n c, .slice B n d] w fun e w' => e = .returned (.bool true) ∧ Below w.heap.size w w' := by
  subst hl
  exact (same10 A B c d xss w (h1.rd (by omega) hm) (h2.rd (by omega) hm)).mono fun _ _ ⟨he, n, hw⟩ => ⟨he, hw ▸ below_drewN' (Below.refl _ _) n⟩

set_option maxRecDepth 100000 in
set_option maxHeartbeats 1000000 in
theorem walkSuites_walk (w : World) (a0 a1 a2 a3 : Int) (w0 : (Lit.int .i64 a0).wf = true) (w1 : (Lit.int .u64 a1).wf = true) (w2 : (Lit.int .i64 a2).wf = true) (w3 : (Lit.int .i64 a3).wf = true) :
    Calls Try.prog 9 #[.int .i64 a0, .agg #[.int .u64 a1, .int .i64 a2, .int .i64 a3]] w fun e w' => e = .returned (.bool true) ∧ Below w.heap.size w w' := by
  obtain ⟨s, rfl, hs⟩ := u64_nat w1
  have hbx : Below w.heap.size w (w.alloc (.cells #[.int .u64 s, .int .i64 a2, .int .i64 a3] 53)) := (Below.refl _ _).alloc (Nat.le_refl _) _
  go_enter Try.func9, Try.ntmps9
  go_wp2_with fail
  refine (few_any s a2 a3 _).mono ?_
  rintro e v1 ⟨b, rfl, hb1⟩
  have c0 : v1.cell? ⟨w.heap.size, 0, none⟩ = some (.int .u64 s) := (hb1.cell (p := ⟨w.heap.size, 0, none⟩) (by simp)).trans (by rw [World.cell?_alloc_at (hn := rfl)]; rfl)
  have c1 : v1.cell? ⟨w.heap.size, 1, none⟩ = some (.int .i64 a2) := (hb1.cell (p := ⟨w.heap.size, 1, none⟩) (by simp)).trans (by rw [World.cell?_alloc_at (hn := rfl)]; rfl)
  have c2 : v1.cell? ⟨w.heap.size, 2, none⟩ = some (.int .i64 a3) := (hb1.cell (p := ⟨w.heap.size, 2, none⟩) (by simp)).trans (by rw [World.cell?_alloc_at (hn := rfl)]; rfl)
  have hw1 := below_seq hbx hb1
  have hsz : w.heap.size < v1.heap.size := by have := hb1.size; simp at this; omega
  clear hb1 hbx
  cases b
  · go_wp2_with fail
    refine (wake32 _).mono ?_
    rintro e v2 ⟨rfl, hb2⟩
    go_wp2_with fail
    go_ret
    exact ⟨rfl, below_seq hw1 hb2⟩
  · by_cases h : a0 < 1 ∨ 64 < a0 ∨ a2 < 0 ∨ 10000 < a2 ∨ a3 < 0 ∨ 1024 < a3
    · have H := Lib.hid h
      clear h
      go_wp2_with (first | (go_at_call 29; refine (suite_p_no s a0 a2 a3 _ H.out).mono ?_; rintro e w' ⟨rfl, rfl⟩) | (go_at_call 30; refine (suite_r_no s a0 a2 a3 _ H.out).mono ?_; rintro e w' ⟨rfl, rfl⟩) | (go_at_call 31; refine (same10_nil _).mono ?_; rintro e v3 ⟨rfl, hb3⟩) | (go_at_call 28; refine (wake32 _).mono ?_; rintro e v4 ⟨rfl, hb4⟩))
      go_ret
      exact ⟨rfl, below_seq (below_seq hw1 hb3) hb4⟩
    · obtain ⟨k, rfl⟩ : ∃ k : Nat, a0 = k := ⟨a0.toNat, by omega⟩
      obtain ⟨n, rfl⟩ : ∃ k : Nat, a2 = k := ⟨a2.toNat, by omega⟩
      obtain ⟨len, rfl⟩ : ∃ k : Nat, a3 = k := ⟨a3.toNat, by omega⟩
      have q1 : 1 ≤ k := by omega
      have q2 : k ≤ 64 := by omega
      have q3 : n ≤ 10000 := by omega
      have q4 : len ≤ 1024 := by omega
      clear h w0 w1 w2 w3
      go_wp2_with fail
      refine (suite_p s k n len _ hs q1 q2 q3 q4).mono ?_
      rintro e v2 ⟨A, c, rfl, ho1, hb2⟩
      have d0 := (hb2.cell (p := ⟨w.heap.size, 0, none⟩) hsz).trans c0
      have d1 := (hb2.cell (p := ⟨w.heap.size, 1, none⟩) hsz).trans c1
      have d2 := (hb2.cell (p := ⟨w.heap.size, 2, none⟩) hsz).trans c2
      go_wp2_with fail
      refine (suite_r s k n len _ hs q1 q2 q3 q4).mono ?_
      rintro e v3 ⟨B, d, rfl, ho2, hb3⟩
      go_wp2_with fail
      refine (same10_own (Rnd.su_len _ _ _ _) (by omega) (fun i hi => by rw [Rnd.su_len] at hi; rw [Rnd.su_get _ _ _ _ hi, Rnd.wl_len]; omega) (ho1.keep hb3) ho2).mono ?_
      rintro e v4 ⟨rfl, hb4⟩
      go_wp2_with fail
      refine (wake32 _).mono ?_
      rintro e v5 ⟨rfl, hb5⟩
      go_wp2_with fail
      go_ret
      exact ⟨rfl, below_seq (below_seq (below_seq (below_seq hw1 hb2) hb3) hb4) hb5⟩

/-- a machine's four cells and a walk's three, in boxes -/
structure MB (v : World) (g : Nat) (I S : Int) (x y : Value) : Prop where
  c0 : v.cell? ⟨g, 0, none⟩ = some (.int .i64 I)
  c1 : v.cell? ⟨g, 1, none⟩ = some (.int .i64 S)
  c2 : v.cell? ⟨g, 2, none⟩ = some x
  c3 : v.cell? ⟨g, 3, none⟩ = some y
theorem MB.keep {v v' : World} {g : Nat} {I S : Int} {x y : Value} (h : MB v g I S x y) (hb : Below v.heap.size v v') : MB v' g I S x y :=
  have hg := World.block_lt_of_cell? _ _ h.c0
  ⟨(hb.cell (p := ⟨g, 0, none⟩) hg).trans h.c0, (hb.cell (p := ⟨g, 1, none⟩) hg).trans h.c1, (hb.cell (p := ⟨g, 2, none⟩) hg).trans h.c2, (hb.cell (p := ⟨g, 3, none⟩) hg).trans h.c3⟩
theorem MB.new (w : World) (I S : Int) (x y : Value) (t : TypeId) : MB (w.alloc (.cells #[.int .i64 I, .int .i64 S, x, y] t)) w.heap.size I S x y :=
  ⟨by rw [World.cell?_alloc_at (hn := rfl)]; rfl, by rw [World.cell?_alloc_at (hn := rfl)]; rfl, by rw [World.cell?_alloc_at (hn := rfl)]; rfl, by rw [World.cell?_alloc_at (hn := rfl)]; rfl⟩
structure WB (v : World) (g s : Nat) (a b : Int) : Prop where
  c0 : v.cell? ⟨g, 0, none⟩ = some (.int .u64 s)
  c1 : v.cell? ⟨g, 1, none⟩ = some (.int .i64 a)
  c2 : v.cell? ⟨g, 2, none⟩ = some (.int .i64 b)
theorem WB.keep {v v' : World} {g s : Nat} {a b : Int} (h : WB v g s a b) (hb : Below v.heap.size v v') : WB v' g s a b :=
  have hg := World.block_lt_of_cell? _ _ h.c0
  ⟨(hb.cell (p := ⟨g, 0, none⟩) hg).trans h.c0, (hb.cell (p := ⟨g, 1, none⟩) hg).trans h.c1, (hb.cell (p := ⟨g, 2, none⟩) hg).trans h.c2⟩
theorem WB.new (w : World) (g s : Nat) (a b : Int) (t : TypeId) (hg : g = w.heap.size) : WB (w.alloc (.cells #[.int .u64 s, .int .i64 a, .int .i64 b] t)) g s a b :=
  ⟨by rw [World.cell?_alloc_at (hn := hg)]; rfl, by rw [World.cell?_alloc_at (hn := hg)]; rfl, by rw [World.cell?_alloc_at (hn := hg)]; rfl⟩

set_option maxRecDepth 100000 in
set_option maxHeartbeats 2000000 in
theorem walkGuides_walk (w : World) (I S : Int) (A : Option Addr) (c : Nat) (nx : List (List Int)) (B : Option Addr) (d : Nat) (out : List (List Int)) (a4 a5 a6 : Int)
    (_w0 : (Lit.int .i64 I).wf = true) (_w1 : (Lit.int .i64 S).wf = true) (hN : RdM .i64 w A nx) (_w2 : WfM .i64 nx) (hO : RdM .i64 w B out) (_w3 : WfM .i64 out) (w4 : (Lit.int .u64 a4).wf = true) (_w5 : (Lit.int .i64 a5).wf = true) (_w6 : (Lit.int .i64 a6).wf = true) :
    Calls Try.prog 10 #[.agg #[.int .i64 I, .int .i64 S, .slice A nx.length c, .slice B out.length d], .agg #[.int .u64 a4, .int .i64 a5, .int .i64 a6]] w fun e w' => e = .returned (.bool true) ∧ Below w.heap.size w w' := by
  obtain ⟨s, rfl, hs⟩ := u64_nat w4
  have hbx : Below w.heap.size w ((w.alloc (.cells #[.int .i64 I, .int .i64 S, .slice A nx.length c, .slice B out.length d] 62)).alloc (.cells #[.int .u64 s, .int .i64 a5, .int .i64 a6] 53)) :=
    ((Below.refl _ _).alloc (Nat.le_refl _) _).alloc (by simp) _
  have mb0 := (MB.new w I S (.slice A nx.length c) (.slice B out.length d) 62).keep ((Below.refl _ _).alloc (Nat.le_refl _) (.cells #[.int .u64 s, .int .i64 a5, .int .i64 a6] 53))
  have wb0 := WB.new (w.alloc (.cells #[.int .i64 I, .int .i64 S, .slice A nx.length c, .slice B out.length d] 62)) (w.heap.size + 1) s a5 a6 53 (by simp)
  have rN0 := hN.keep hbx
  have rO0 := hO.keep hbx
  clear hN hO
  go_enter Try.func10, Try.ntmps10
  go_wp2_with fail
  refine (great_any I S A B c d nx out _ rN0 rO0).mono ?_
  rintro e v1 ⟨b1, rfl, hb1⟩
  have mb1 := mb0.keep hb1
  have wb1 := wb0.keep hb1
  have rN1 := rN0.keep hb1
  have rO1 := rO0.keep hb1
  have hw1 := below_seq hbx hb1
  clear mb0 wb0 rN0 rO0 hb1 hbx
  cases b1
  rotate_left
  · go_wp2_with (go_at_call 28; refine (wake32 _).mono ?_; rintro e v4 ⟨rfl, hb4⟩)
    go_ret
    exact ⟨rfl, below_seq hw1 hb4⟩
  · obtain ⟨x0, x1, x2⟩ := wb1
    go_wp2_with fail
    refine (few_any s a5 a6 _).mono ?_
    rintro e v2 ⟨b2, rfl, hb2⟩
    have mb2 := mb1.keep hb2
    have wb2 := (WB.mk x0 x1 x2).keep hb2
    have rN2 := rN1.keep hb2
    have rO2 := rO1.keep hb2
    have hw2 := below_seq hw1 hb2
    clear mb1 x0 x1 x2 rN1 rO1 hb2 hw1
    cases b2
    · go_wp2_with (go_at_call 28; refine (wake32 _).mono ?_; rintro e v4 ⟨rfl, hb4⟩)
      go_ret
      exact ⟨rfl, below_seq hw2 hb4⟩
    · obtain ⟨x0, x1, x2⟩ := wb2
      obtain ⟨m0, m1, m2, m3⟩ := mb2
      by_cases hv : Mea.validE I S nx out = 0
      · by_cases hr : a5 < 0 ∨ 10000 < a5 ∨ a6 < 0 ∨ 1024 < a6
        · have HV := Lib.hid hv
          have HR := Lib.hid hr
          clear hv hr
          go_wp2_with fail
          refine (guided_p_wrong I S s a5 a6 A B c d nx out _ rN2 rO2 HV.out HR.out).mono ?_
          rintro e v3 ⟨rfl, hb3⟩
          obtain ⟨y0, y1, y2⟩ := (WB.mk x0 x1 x2).keep hb3
          obtain ⟨z0, z1, z2, z3⟩ := (MB.mk m0 m1 m2 m3).keep hb3
          have rN3 := rN2.keep hb3
          have rO3 := rO2.keep hb3
          clear x0 x1 x2 m0 m1 m2 m3
          go_wp2_with fail
          refine (guided_r_wrong I S s a5 a6 A B c d nx out _ rN3 rO3 HV.out HR.out).mono ?_
          rintro e v4 ⟨rfl, hb4⟩
          go_wp2_with (first | (go_at_call 31; refine (same10_nil _).mono ?_; rintro e v5 ⟨rfl, hb5⟩) | (go_at_call 28; refine (wake32 _).mono ?_; rintro e v6 ⟨rfl, hb6⟩))
          go_ret
          exact ⟨rfl, below_seq (below_seq (below_seq (below_seq hw2 hb3) hb4) hb5) hb6⟩
        · obtain ⟨k, t, rfl, rfl, ok⟩ := Mea.ok_of hv
          obtain ⟨n, rfl⟩ : ∃ k : Nat, a5 = k := ⟨a5.toNat, by omega⟩
          obtain ⟨len, rfl⟩ : ∃ k : Nat, a6 = k := ⟨a6.toNat, by omega⟩
          have q3 : n ≤ 10000 := by omega
          have q4 : len ≤ 1024 := by omega
          have OK := Lib.hid ok
          clear hv hr ok
          go_wp2_with fail
          refine (guided_p k t s n len A B c d nx out _ rN2 rO2 OK.out hs q3 q4).mono ?_
          rintro e v3 ⟨C, f, rfl, ho1, hb3⟩
          obtain ⟨y0, y1, y2⟩ := (WB.mk x0 x1 x2).keep hb3
          obtain ⟨z0, z1, z2, z3⟩ := (MB.mk m0 m1 m2 m3).keep hb3
          have rN3 := rN2.keep hb3
          have rO3 := rO2.keep hb3
          clear x0 x1 x2 m0 m1 m2 m3
          go_wp2_with fail
          refine (guided_r k t s n len A B c d nx out _ rN3 rO3 OK.out hs q3 q4).mono ?_
          rintro e v4 ⟨D, g, rfl, ho2, hb4⟩
          go_wp2_with fail
          refine (same10_own (Gd.gl_len _ _ _ _ _ _) (by omega) (fun i hi => by rw [Gd.gl_len] at hi; rw [Gd.gl_get _ _ _ _ _ _ hi, Gd.gword_len]; omega) (ho1.keep hb4) ho2).mono ?_
          rintro e v5 ⟨rfl, hb5⟩
          go_wp2_with fail
          refine (wake32 _).mono ?_
          rintro e v6 ⟨rfl, hb6⟩
          go_wp2_with fail
          go_ret
          exact ⟨rfl, below_seq (below_seq (below_seq (below_seq hw2 hb3) hb4) hb5) hb6⟩
      · obtain ⟨q, hq⟩ : ∃ q, q = Mea.validE I S nx out := ⟨_, rfl⟩
        have HV := Lib.hid hv
        have HQ := Lib.hid hq
        clear hv hq
        go_wp2_with fail
        refine (guided_p_bad I S s a5 a6 A B c d nx out _ rN2 rO2 HV.out).mono ?_
        rintro e v3 ⟨rfl, hb3⟩
        rw [← HQ.out]
        obtain ⟨y0, y1, y2⟩ := (WB.mk x0 x1 x2).keep hb3
        obtain ⟨z0, z1, z2, z3⟩ := (MB.mk m0 m1 m2 m3).keep hb3
        have rN3 := rN2.keep hb3
        have rO3 := rO2.keep hb3
        clear x0 x1 x2 m0 m1 m2 m3
        go_wp2_with fail
        refine (guided_r_bad I S s a5 a6 A B c d nx out _ rN3 rO3 HV.out).mono ?_
        rintro e v4 ⟨rfl, hb4⟩
        rw [← HQ.out]
        go_wp2_with (first | (go_at_call 31; refine (same10_nil _).mono ?_; rintro e v5 ⟨rfl, hb5⟩) | (go_at_call 28; refine (wake32 _).mono ?_; rintro e v6 ⟨rfl, hb6⟩))
        go_ret
        exact ⟨rfl, below_seq (below_seq (below_seq (below_seq hw2 hb3) hb4) hb5) hb6⟩
end Go.Proofs.Ythemmbdhhjelcaa
