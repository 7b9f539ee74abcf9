/- The examples of chapter 32 hold (exampleHolds). -/
import Derived.Test.YthemmbdhhjelcaaGuidR
namespace Go.Proofs.Ythemmbdhhjelcaa
open Go.RowKit

namespace Gd
theorem su_a : Rnd.su 7 3 0 2 = [[], []] := by simp [Rnd.su, Rnd.wl, List.range_succ]
theorem su_b : Rnd.su 0 2 1 1 = [[1]] := by simp [Rnd.su, Rnd.wl, Rnd.dr, Rnd.st, Rnd.bel_2, List.range_succ]
theorem pick_one (σ : G) : gpick 1 σ = 0 := by have := gpick_lt 1 σ (by omega); omega
theorem gl_one : gl 1 [[0]] 0 3 5 2 = [[0, 0, 0], [0, 0, 0]] := by
  have h : ∀ σ, gword 1 [[0]] σ 3 = [0, 0, 0] := fun σ => by simp [gword, pick_one, List.range_succ]
  simp [gl, h, List.range_succ]
theorem ok_one : Mea.Ok 1 0 [[0]] [[0]] := by
  refine ⟨by omega, by omega, by simp, by simp, by simp, rfl, fun s hs => ?_, fun s hs => ?_, fun s a hs ha => ?_⟩
  · have : s = 0 := by simpa using hs
    subst this; rfl
  · have : s = 0 := by simpa using hs
    subst this; rfl
  · have : s = 0 := by simpa using hs
    have : a = 0 := by omega
    subst_vars; simp [Mea.okC]
end Gd
theorem rd_lit {w : World} {g : Nat} {xs : List Int} (hl : xs.length ≤ 1000000) (h : ∀ i, i < xs.length → w.cell? ⟨g, i, none⟩ = some (.int .i64 (xs.getD i 0))) : Rd w (some ⟨g, 0, none⟩) xs := by
  refine ⟨by omega, fun _ => ⟨_, rfl, fun i hi => ?_⟩⟩
  have : (⟨g, 0, none⟩ : Addr).add i = ⟨g, i, none⟩ := by unfold Addr.add; split <;> simp_all
  rw [this]; exact h i hi
theorem rdm1 {w : World} {g c : Nat} {B : Option Addr} {xs : List Int} (h : w.cell? ⟨g, 0, none⟩ = some (.slice B xs.length c)) (hr : Rd w B xs) : RdM .i64 w (some ⟨g, 0, none⟩) [xs] := by
  refine ⟨by simp, fun _ => ⟨_, rfl, fun i hi => ?_⟩⟩
  have : i = 0 := by simpa using hi
  subst this
  exact ⟨B, c, h, hr⟩
theorem rdm2 {w : World} {g c d : Nat} {B C : Option Addr} {xs ys : List Int} (h : w.cell? ⟨g, 0, none⟩ = some (.slice B xs.length c)) (h' : w.cell? ⟨g, 1, none⟩ = some (.slice C ys.length d)) (hr : Rd w B xs) (hr' : Rd w C ys) : RdM .i64 w (some ⟨g, 0, none⟩) [xs, ys] := by
  refine ⟨by simp, fun _ => ⟨_, rfl, fun i hi => ?_⟩⟩
  match i, hi with
  | 0, _ => exact ⟨B, c, h, hr⟩
  | 1, _ =>
    refine ⟨C, d, ?_, hr'⟩
    have : (⟨g, 0, none⟩ : Addr).add 1 = ⟨g, 1, none⟩ := by simp [Addr.add]
    rw [this]; exact h'
/-- a machine in a box, with its tables, is there in a later world -/
structure Box (w : World) (g : Nat) (A B : Option Addr) : Prop where
  c0 : w.cell? ⟨g, 0, none⟩ = some (.int .i64 1)
  c1 : w.cell? ⟨g, 1, none⟩ = some (.int .i64 0)
  c2 : w.cell? ⟨g, 2, none⟩ = some (.slice A 1 1)
  c3 : w.cell? ⟨g, 3, none⟩ = some (.slice B 1 1)
  rN : RdM .i64 w A [[0]]
  rO : RdM .i64 w B [[0]]
theorem Box.keep {w w' : World} {g : Nat} {A B : Option Addr} (h : Box w g A B) (hb : Below w.heap.size w w') : Box w' g A B :=
  have hg := World.block_lt_of_cell? _ _ h.c0
  ⟨(hb.cell (p := ⟨g, 0, none⟩) hg).trans h.c0, (hb.cell (p := ⟨g, 1, none⟩) hg).trans h.c1, (hb.cell (p := ⟨g, 2, none⟩) hg).trans h.c2, (hb.cell (p := ⟨g, 3, none⟩) hg).trans h.c3, h.rN.keep hb, h.rO.keep hb⟩
theorem ex_sa (w : World) : Calls Try.prog 29 #[.int .u64 7, .int .i64 3, .int .i64 2, .int .i64 0] w fun e w' => ∃ A c, e = .returned (.tuple #[.slice A 2 c, .int .i64 0]) ∧ RdM .i64 w' A [[], []] ∧ Below w.heap.size w w' := by
  refine (suite_p 7 3 2 0 w (by omega) (by omega) (by omega) (by omega) (by omega)).mono fun e w' ⟨A, c, he, ho, hb⟩ => ⟨A, c, he, ?_, hb⟩
  rw [Gd.su_a] at ho
  exact OwnM.rd (c := c) ho (by simp) (fun i hi => by match i, hi with | 0, _ => simp | 1, _ => simp)
theorem ex_sb (w : World) : Calls Try.prog 29 #[.int .u64 0, .int .i64 2, .int .i64 1, .int .i64 1] w fun e w' => ∃ A c, e = .returned (.tuple #[.slice A 1 c, .int .i64 0]) ∧ RdM .i64 w' A [[1]] ∧ Below w.heap.size w w' := by
  refine (suite_p 0 2 1 1 w (by omega) (by omega) (by omega) (by omega) (by omega)).mono fun e w' ⟨A, c, he, ho, hb⟩ => ⟨A, c, he, ?_, hb⟩
  rw [Gd.su_b] at ho
  exact OwnM.rd (c := c) ho (by simp) (fun i hi => by match i, hi with | 0, _ => simp)
theorem ex_sc (w : World) : Calls Try.prog 29 #[.int .u64 0, .int .i64 0, .int .i64 1, .int .i64 1] w fun e w' => e = .returned (.tuple #[.slice none 0 0, .int .i64 2]) ∧ w = w' :=
  suite_p_no 0 0 1 1 w (.inl (by omega))
theorem ex_ga (w : World) (A B : Option Addr) (h1 : RdM .i64 w A [[0]]) (h2 : RdM .i64 w B [[0]]) : Calls Try.prog 33 #[.agg #[.int .i64 1, .int .i64 0, .slice A 1 1, .slice B 1 1], .int .u64 5, .int .i64 2, .int .i64 3] w fun e w' => ∃ C c, e = .returned (.tuple #[.slice C 2 c, .int .i64 0]) ∧ RdM .i64 w' C [[0, 0, 0], [0, 0, 0]] ∧ Below w.heap.size w w' := by
  refine (guided_p 1 0 5 2 3 A B 1 1 [[0]] [[0]] w h1 h2 Gd.ok_one (by omega) (by omega) (by omega)).mono fun e w' ⟨C, c, he, ho, hb⟩ => ⟨C, c, he, ?_, hb⟩
  rw [Gd.gl_one] at ho
  exact OwnM.rd (c := c) ho (by simp) (fun i hi => by match i, hi with | 0, _ => simp | 1, _ => simp)
theorem ex_gb (w : World) (A B : Option Addr) (h1 : RdM .i64 w A [[0]]) (h2 : RdM .i64 w B [[0]]) : Calls Try.prog 33 #[.agg #[.int .i64 1, .int .i64 0, .slice A 1 1, .slice B 1 1], .int .u64 0, .int .i64 (-1), .int .i64 1] w fun e w' => e = .returned (.tuple #[.slice none 0 0, .int .i64 2]) ∧ Below w.heap.size w w' :=
  guided_p_wrong 1 0 0 (-1) 1 A B 1 1 [[0]] [[0]] w h1 h2 Gd.ok_one.valid (.inl (by omega))
theorem same10_a (w : World) (A B : Option Addr) (c d : Nat) (ha : RdM .i64 w A [[], []]) (hb : RdM .i64 w B [[], []]) : Calls Try.prog 31 #[.slice A 2 c, .slice B 2 d] w fun e w' => e = .returned (.bool true) ∧ Below w.heap.size w w' :=
  (same10 A B c d [[], []] w ha hb).mono fun _ _ ⟨he, n, hw⟩ => ⟨he, hw ▸ below_drewN' (Below.refl _ _) n⟩
theorem same10_b (w : World) (A B : Option Addr) (c d : Nat) (ha : RdM .i64 w A [[1]]) (hb : RdM .i64 w B [[1]]) : Calls Try.prog 31 #[.slice A 1 c, .slice B 1 d] w fun e w' => e = .returned (.bool true) ∧ Below w.heap.size w w' :=
  (same10 A B c d [[1]] w ha hb).mono fun _ _ ⟨he, n, hw⟩ => ⟨he, hw ▸ below_drewN' (Below.refl _ _) n⟩
theorem same10_c (w : World) (A B : Option Addr) (c d : Nat) (ha : RdM .i64 w A [[0, 0, 0], [0, 0, 0]]) (hb : RdM .i64 w B [[0, 0, 0], [0, 0, 0]]) : Calls Try.prog 31 #[.slice A 2 c, .slice B 2 d] w fun e w' => e = .returned (.bool true) ∧ Below w.heap.size w w' :=
  (same10 A B c d [[0, 0, 0], [0, 0, 0]] w ha hb).mono fun _ _ ⟨he, n, hw⟩ => ⟨he, hw ▸ below_drewN' (Below.refl _ _) n⟩
set_option maxRecDepth 100000 in
set_option maxHeartbeats 1000000 in
theorem wake32 (w : World) : Calls Try.prog 28 #[] w fun e w' => e = .returned (.bool true) ∧ Below w.heap.size w w' := by
  go_enter Try.func28, Try.ntmps28
  go_wp2_with fail
  refine (ex_sa _).mono ?_
  rintro e w1 ⟨A, c, rfl, rd1, hb1⟩
  have hw1 : Below w.heap.size w w1 := below_seq ((((((Below.refl _ _).alloc (Nat.le_refl _) _).alloc (by simp) _).alloc (by simp; omega) _).alloc (by simp; omega) _).alloc (by simp; omega) _) hb1
  have box1 : Box w1 (w.heap.size + 1 + 1 + 1 + 1) (some ⟨w.heap.size + 1, 0, none⟩) (some ⟨w.heap.size + 1 + 1 + 1, 0, none⟩) := by
    refine Box.keep ⟨?_, ?_, ?_, ?_, rdm1 (xs := [0]) (c := 1) (B := some ⟨w.heap.size, 0, none⟩) ?_ (rd_lit (by simp) fun i hi => ?_), rdm1 (xs := [0]) (c := 1) (B := some ⟨w.heap.size + 1 + 1, 0, none⟩) ?_ (rd_lit (by simp) fun i hi => ?_)⟩ hb1
    all_goals (try (obtain rfl : i = 0 := by simpa using hi))
    all_goals go_simp
  clear hb1
  go_wp2_with fail
  refine (ex_sb _).mono ?_
  rintro e w2 ⟨A2, c2, rfl, rd2, hb2⟩
  have box2 := box1.keep hb2
  have rd1' := rd1.keep hb2
  have hw2 := below_seq hw1 hb2
  clear rd1 box1 hb2 hw1
  obtain ⟨b0, b1, b2, b3, bN, bO⟩ := box2
  have box2 : Box w2 _ _ _ := ⟨b0, b1, b2, b3, bN, bO⟩
  go_wp2_with fail
  refine (ex_ga _ _ _ bN bO).mono ?_
  clear b0 b1 b2 b3 bN bO
  rintro e w3 ⟨A3, c3, rfl, rd3, hb3⟩
  have box3 := box2.keep hb3
  have rd1 := rd1'.keep hb3
  have rd2' := rd2.keep hb3
  have hw3 := below_seq hw2 hb3
  clear rd1' rd2 box2 hb3 hw2
  obtain ⟨b0, b1, b2, b3, bN, bO⟩ := box3
  go_wp2_with fail
  refine (ex_sc _).mono ?_
  rintro e w' ⟨rfl, rfl⟩
  go_wp2_with fail
  refine (ex_gb _ _ _ bN bO).mono ?_
  clear b0 b1 b2 b3 bN bO
  rintro e w4 ⟨rfl, hb4⟩
  have rd1' := rd1.keep hb4
  have rd2 := rd2'.keep hb4
  have rd3' := rd3.keep hb4
  have hw4 := below_seq hw3 hb4
  clear rd1 rd2' rd3 hb4 hw3
  go_wp2_with fail
  have bl4 := ((Below.refl w4.heap.size w4).alloc (Nat.le_refl _) (.cells #[] 3)).alloc (by simp) (.cells #[] 3)
  have bm4 := bl4.alloc (by simp; omega) (.cells #[.slice (some ⟨w4.heap.size, 0, none⟩) 0 0, .slice (some ⟨w4.heap.size + 1, 0, none⟩) 0 0] 32)
  refine (same10_a _ A _ c _ (rd1'.keep bm4) (rdm2 (B := some ⟨w4.heap.size, 0, none⟩) (C := some ⟨w4.heap.size + 1, 0, none⟩) (xs := []) (ys := []) (c := 0) (d := 0) (by go_simp) (by go_simp) RdK.nil RdK.nil)).mono ?_
  rintro e w5 ⟨rfl, hb5⟩
  have hk5 := below_seq bm4 hb5
  have rd2' := rd2.keep hk5
  have rd3 := rd3'.keep hk5
  have hw5 := below_seq hw4 hk5
  clear rd1' rd2 rd3' bl4 bm4 hk5 hb5 hw4
  go_wp2_with fail
  have bl5 := (Below.refl w5.heap.size w5).alloc (Nat.le_refl _) (.cells #[.int .i64 1] 3)
  have bm5 := bl5.alloc (by simp) (.cells #[.slice (some ⟨w5.heap.size, 0, none⟩) 1 1] 32)
  refine (same10_b _ A2 _ c2 _ (rd2'.keep bm5) (rdm1 (B := some ⟨w5.heap.size, 0, none⟩) (xs := [1]) (c := 1) (by go_simp) (rd_lit (by simp) fun i hi => by obtain rfl : i = 0 := (by simpa using hi); go_simp))).mono ?_
  rintro e w6 ⟨rfl, hb6⟩
  have hk6 := below_seq bm5 hb6
  have rd3' := rd3.keep hk6
  have hw6 := below_seq hw5 hk6
  clear rd2' rd3 bl5 bm5 hk6 hb6 hw5
  go_wp2_with fail
  have bl6 := ((Below.refl w6.heap.size w6).alloc (Nat.le_refl _) (.cells #[.int .i64 0, .int .i64 0, .int .i64 0] 3)).alloc (by simp) (.cells #[.int .i64 0, .int .i64 0, .int .i64 0] 3)
  have bm6 := bl6.alloc (by simp; omega) (.cells #[.slice (some ⟨w6.heap.size, 0, none⟩) 3 3, .slice (some ⟨w6.heap.size + 1, 0, none⟩) 3 3] 32)
  refine (same10_c _ A3 _ c3 _ (rd3'.keep bm6) (rdm2 (B := some ⟨w6.heap.size, 0, none⟩) (C := some ⟨w6.heap.size + 1, 0, none⟩) (xs := [0, 0, 0]) (ys := [0, 0, 0]) (c := 3) (d := 3) (by go_simp) (by go_simp) (rd_lit (by simp) fun i hi => ?_) (rd_lit (by simp) fun i hi => ?_))).mono ?_
  · match i, hi with
    | 0, _ => go_simp
    | 1, _ => go_simp
    | 2, _ => go_simp
  · match i, hi with
    | 0, _ => go_simp
    | 1, _ => go_simp
    | 2, _ => go_simp
  rintro e w7 ⟨rfl, hb7⟩
  have hw7 := below_seq hw6 (below_seq bm6 hb7)
  go_wp2_with fail
  go_ret
  exact ⟨rfl, hw7⟩
end Go.Proofs.Ythemmbdhhjelcaa
