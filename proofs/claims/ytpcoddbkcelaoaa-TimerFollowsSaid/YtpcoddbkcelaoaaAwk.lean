/- The examples of chapter 41 hold (awake). -/
import Derived.Test.YtpcoddbkcelaoaaAct
import Derived.Test.YtpcoddbkcelaoaaRun
import Derived.Test.YtpcoddbkcelaoaaUntP
import Derived.Test.YtpcoddbkcelaoaaSam
import Derived.Test.YtpcoddbkcelaoaaLmp
namespace Go.Proofs.Ytpcoddbkcelaoaa
open Go.RowKit

theorem awE1 : runE lampM [(5, 0), (4, 0)] 30 = (0, [(5, 0, 1), (9, 0, 2), (19, 1, 0)]) := by decide +kernel
theorem awE2 : runE lampM [(5, 0), (10, 0)] 30 = (0, [(5, 0, 1), (15, 1, 0), (15, 0, 1), (25, 1, 0)]) := by decide +kernel
theorem awV : Tm.validE lampM = 0 := by decide +kernel
theorem awU : untE lampM = (0, 2, [[1, 0], [1, 0]], [[1014, 0], [2016, 1]]) := by decide +kernel
theorem awA : Tm.actT (Tm.reach lampM 1 1 0) 2 1 = [[false], [true]] := by decide +kernel
theorem awA' {k T S : Nat} (h : Tm.Ok lampM k T S) : Tm.actT (Tm.reach lampM k T S) lampM.nx.length T = [[false], [true]] := by
  have h1 : (k : Int) = 1 := by have := h.I; simpa [lampM] using this.symm
  have h2 : (T : Int) = 1 := by have := h.T'; simpa [lampM] using this.symm
  have h3 : (S : Int) = 0 := by have := h.S'; simpa [lampM] using this.symm
  obtain rfl : k = 1 := by omega
  obtain rfl : T = 1 := by omega
  obtain rfl : S = 0 := by omega
  exact awA
theorem rd2_lit (w : World) (t : TypeId) (x y z u : Int) : Rd2 (w.alloc (.cells #[.int .i64 x, .int .i64 y, .int .i64 z, .int .i64 u] t)) (some ⟨w.heap.size, 0, none⟩) [(x, y), (z, u)] := rd2_two (blk_at _ _ _ rfl)
theorem rdl_lit (w : World) (t : TypeId) (q : List Tm.Ev) (cs : Array Value) (hc : cs.toList = q.flatMap evC) (hl : q.length ≤ 9223372036854775807) : RdL evC 3 (w.alloc (.cells cs t)) (some ⟨w.heap.size, 0, none⟩) q := by
  refine ⟨hl, fun _ => ⟨_, rfl, fun i x hi j u hu => ?_⟩⟩
  have hj : j < 3 := by
    have := (List.getElem?_eq_some_iff.1 hu).1; exact this
  have e1 : (⟨w.heap.size, 0, none⟩ : Addr).add (i * 3 + j) = ⟨w.heap.size, i * 3 + j, none⟩ := by unfold Addr.add; split <;> simp_all
  rw [e1, (Blk.new w t cs).cell, ← Array.getElem?_toList, hc, flat_get evC_len q hi hj]
  exact hu
theorem rdb_one {w : World} {g : Nat} {t : TypeId} {x : Bool} (h : Blk w g t #[.bool x]) : RdB w (some ⟨g, 0, none⟩) [x] := by
  refine ⟨by simp, fun _ => ⟨_, rfl, fun i hi => ?_⟩⟩
  obtain rfl : i = 0 := by simpa using hi
  have := h.cell 0
  simpa [Addr.add] using this
theorem rdbb_two {w : World} {g g1 g2 : Nat} {t : TypeId} {xs ys : List Bool} (h : Blk w g t #[.slice (some ⟨g1, 0, none⟩) 1 1, .slice (some ⟨g2, 0, none⟩) 1 1]) (hx : xs.length = 1) (hy : ys.length = 1) (r1 : RdB w (some ⟨g1, 0, none⟩) xs) (r2 : RdB w (some ⟨g2, 0, none⟩) ys) : RdBB w (some ⟨g, 0, none⟩) [xs, ys] := by
  refine ⟨by simp, fun _ => ⟨_, rfl, fun i hi => ?_⟩⟩
  have hi2 : i < 2 := by simpa using hi
  have c0 := h.cell 0
  have c1 := h.cell 1
  obtain rfl | rfl : i = 0 ∨ i = 1 := by omega
  · exact ⟨_, 1, by simpa [Addr.add, hx] using c0, by simpa using r1⟩
  · exact ⟨_, 1, by simpa [Addr.add, hy] using c1, by simpa using r2⟩
theorem awk1 {A B C D : Option Addr} {c d e f : Nat} {w : World} (hR : RdT w A B C lampM) (hD : Rd2 w D [(5, 0), (4, 0)]) :
    Calls Try.prog 16 #[.agg #[.int .i64 1, .int .i64 1, .int .i64 0, .slice A 2 c, .slice B 2 d, .slice C 2 e], .slice D 2 f, .int .i64 30] w fun r w' => (∃ X x, r = .returned (.tuple #[.slice X 3 x, .int .i64 0]) ∧ RdL evC 3 w' X [(5, 0, 1), (9, 0, 2), (19, 1, 0)]) ∧ Below w.heap.size w w' := by
  have h := run_p lampM A B C D c d e f [(5, 0), (4, 0)] 30 w hR hD
  refine h.mono fun r w' hh => ?_
  rw [awE1] at hh
  obtain ⟨⟨v, hv, ho⟩, hb⟩ := hh
  obtain ⟨X, x, rfl⟩ := ho.form
  exact ⟨⟨X, x, hv, (ho.rd evC_len (by simp)).2⟩, hb⟩
theorem awk2 {A B C D : Option Addr} {c d e f : Nat} {w : World} (hR : RdT w A B C lampM) (hD : Rd2 w D [(5, 0), (10, 0)]) :
    Calls Try.prog 16 #[.agg #[.int .i64 1, .int .i64 1, .int .i64 0, .slice A 2 c, .slice B 2 d, .slice C 2 e], .slice D 2 f, .int .i64 30] w fun r w' => (∃ X x, r = .returned (.tuple #[.slice X 4 x, .int .i64 0]) ∧ RdL evC 3 w' X [(5, 0, 1), (15, 1, 0), (15, 0, 1), (25, 1, 0)]) ∧ Below w.heap.size w w' := by
  have h := run_p lampM A B C D c d e f [(5, 0), (10, 0)] 30 w hR hD
  refine h.mono fun r w' hh => ?_
  rw [awE2] at hh
  obtain ⟨⟨v, hv, ho⟩, hb⟩ := hh
  obtain ⟨X, x, rfl⟩ := ho.form
  exact ⟨⟨X, x, hv, (ho.rd evC_len (by simp)).2⟩, hb⟩
theorem awk3 {A B C : Option Addr} {c d e : Nat} {w : World} (hR : RdT w A B C lampM) :
    Calls Try.prog 11 #[.agg #[.int .i64 1, .int .i64 1, .int .i64 0, .slice A 2 c, .slice B 2 d, .slice C 2 e]] w fun r w' => (∃ X x, r = .returned (.tuple #[.slice X 2 x, .int .i64 0]) ∧ RdBB w' X [[false], [true]]) ∧ Below w.heap.size w w' := by
  have h := active_p lampM A B C c d e w hR
  refine h.mono fun r w' hh => ?_
  obtain ⟨⟨v, hv, ho⟩, hb⟩ := hh
  rw [awV] at hv ho
  rcases ho with ⟨h0, _⟩ | ⟨k, T, S, X, x, hok, rfl, hr⟩
  · exact absurd rfl h0
  · rw [awA' hok] at hr
    exact ⟨⟨X, x, hv, hr⟩, hb⟩
theorem awk4 {A B C : Option Addr} {c d e : Nat} {w : World} (hR : RdT w A B C lampM) :
    Calls Try.prog 19 #[.agg #[.int .i64 1, .int .i64 1, .int .i64 0, .slice A 2 c, .slice B 2 d, .slice C 2 e]] w fun r w' => (∃ X Y x y, r = .returned (.tuple #[.agg #[.int .i64 2, .int .i64 0, .slice X 2 x, .slice Y 2 y], .int .i64 0]) ∧ RdM .i64 w' X [[1, 0], [1, 0]] ∧ RdM .i64 w' Y [[1014, 0], [2016, 1]]) ∧ Below w.heap.size w w' := by
  have h := untimed_p lampM A B C c d e w hR
  refine h.mono fun r w' hh => ?_
  rw [awU] at hh
  exact hh
theorem awk5 {A B C : Option Addr} {c d e : Nat} {w : World} (hR : RdT w A B C lampM) :
    Calls Try.prog 13 #[.agg #[.int .i64 1, .int .i64 1, .int .i64 0, .slice A 2 c, .slice B 2 d, .slice C 2 e]] w fun r w' => r = .returned (.int .i64 0) ∧ Below w.heap.size w w' := by
  have h := tvalid_p lampM A B C c d e w hR
  rw [awV] at h
  exact h
theorem sev_b {n : Nat} {A B : Option Addr} {c d : Nat} {xs : List Tm.Ev} {w : World} (hn : xs.length = n) (ha : RdL evC 3 w A xs) (hb : RdL evC 3 w B xs) :
    Calls Try.prog 18 #[.slice A n c, .slice B n d] w fun e w' => e = .returned (.bool true) ∧ Below w.heap.size w w' := by
  subst hn
  refine (sameevents_r A B c d xs xs w ha hb).mono fun _ _ ⟨he, n, hw⟩ => ⟨by rw [he]; simp, hw ▸ below_drewN' (Below.refl _ _) n⟩
theorem sbb_b {n : Nat} {A B : Option Addr} {c d : Nat} {xs : List (List Bool)} {w : World} (hn : xs.length = n) (ha : RdBB w A xs) (hb : RdBB w B xs) :
    Calls Try.prog 15 #[.slice A n c, .slice B n d] w fun e w' => e = .returned (.bool true) ∧ Below w.heap.size w w' := by
  subst hn
  refine (samebools_r A B c d xs xs w ha hb).mono fun _ _ ⟨he, n, hw⟩ => ⟨by rw [he]; simp, hw ▸ below_drewN' (Below.refl _ _) n⟩
theorem s6_b {n : Nat} {I S : Int} {A B C D : Option Addr} {c d e f : Nat} {nx out : List (List Int)} {w : World} (hn : nx.length = n) (ho : out.length = n) (h1 : RdM .i64 w A nx) (h2 : RdM .i64 w B out) (h3 : RdM .i64 w C nx) (h4 : RdM .i64 w D out) :
    Calls Try.prog 21 #[.agg #[.int .i64 I, .int .i64 S, .slice A n c, .slice B n d], .agg #[.int .i64 I, .int .i64 S, .slice C n e, .slice D n f]] w fun r w' => r = .returned (.bool true) ∧ Below w.heap.size w w' := by
  have h := same6_r I S I S nx out nx out A B C D c d e f w h1 h2 h3 h4
  rw [hn, ho] at h
  exact h.mono fun _ _ ⟨he, hb⟩ => ⟨by rw [he]; simp, hb⟩
theorem below_lit {w w' : World} {o : Obj} (h : Below (w.alloc o).heap.size (w.alloc o) w') : Below w.heap.size w w' := ((Below.refl w.heap.size w).alloc (Nat.le_refl _) o).trans (h.mono (by simp))
set_option maxRecDepth 100000 in
set_option maxHeartbeats 4000000 in
theorem awake_p (w : World) : Calls Try.prog 10 #[] w fun e w' => e = .returned (.bool true) ∧ Below w.heap.size w w' := by
  go_enter Try.func10, Try.ntmps10
  go_wp2_with fail
  refine (lamp_r _).mono ?_
  rintro r w1 ⟨⟨A1, B1, C1, c1, d1, e1, rfl, r1⟩, h1⟩
  have b1 := Lib.hid h1
  have R1 := Lib.hid r1
  clear h1 r1
  go_wp2_with fail
  refine (awk1 (R1.out.keep ((Below.refl _ _).alloc (Nat.le_refl _) _)) (rd2_lit _ _ _ _ _ _)).mono ?_
  rintro r w2 ⟨⟨X1, x1, rfl, s1⟩, h1⟩
  have b2 := Lib.hid (below_seq b1.out (below_lit h1))
  have S1 := Lib.hid s1
  clear h1 s1 R1 b1
  go_wp2_with fail
  refine (lamp_r _).mono ?_
  rintro r w3 ⟨⟨A2, B2, C2, c2, d2, e2, rfl, r2⟩, h1⟩
  have b3 := Lib.hid (below_seq b2.out h1)
  have R2 := Lib.hid r2
  have T1 := Lib.hid (S1.out.keep h1)
  clear h1 r2 b2 S1
  go_wp2_with fail
  refine (awk2 (R2.out.keep ((Below.refl _ _).alloc (Nat.le_refl _) _)) (rd2_lit _ _ _ _ _ _)).mono ?_
  rintro r w4 ⟨⟨X2, x2, rfl, s2⟩, h1⟩
  have b4 := Lib.hid (below_seq b3.out (below_lit h1))
  have S2 := Lib.hid s2
  have U1 := Lib.hid (T1.out.keep (below_lit h1))
  clear h1 s2 R2 b3 T1
  go_wp2_with fail
  refine (lamp_r _).mono ?_
  rintro r w5 ⟨⟨A3, B3, C3, c3, d3, e3, rfl, r3⟩, h1⟩
  have b5 := Lib.hid (below_seq b4.out h1)
  have R3 := Lib.hid r3
  have V1 := Lib.hid (U1.out.keep h1)
  have V2 := Lib.hid (S2.out.keep h1)
  clear h1 r3 b4 U1 S2
  go_wp2_with fail
  refine (awk3 R3.out).mono ?_
  rintro r w6 ⟨⟨X3, x3, rfl, s3⟩, h1⟩
  have b6 := Lib.hid (below_seq b5.out h1)
  have S3 := Lib.hid s3
  have W1 := Lib.hid (V1.out.keep h1)
  have W2 := Lib.hid (V2.out.keep h1)
  clear h1 s3 b5 V1 V2 R3
  go_wp2_with fail
  refine (lamp_r _).mono ?_
  rintro r w7 ⟨⟨A4, B4, C4, c4, d4, e4, rfl, r4⟩, h1⟩
  have b7 := Lib.hid (below_seq b6.out h1)
  have R4 := Lib.hid r4
  have V1 := Lib.hid (W1.out.keep h1)
  have V2 := Lib.hid (W2.out.keep h1)
  have V3 := Lib.hid (S3.out.keep h1)
  clear h1 r4 b6 W1 W2 S3
  go_wp2_with fail
  refine (awk4 R4.out).mono ?_
  rintro r w8 ⟨⟨X4, Y4, x4, y4, rfl, s4, t4⟩, h1⟩
  have b8 := Lib.hid (below_seq b7.out h1)
  have S4 := Lib.hid s4
  have T4 := Lib.hid t4
  have W1 := Lib.hid (V1.out.keep h1)
  have W2 := Lib.hid (V2.out.keep h1)
  have W3 := Lib.hid (V3.out.keep h1)
  clear h1 s4 t4 b7 V1 V2 V3 R4
  go_upto_region 5 with fail
  generalize hwb : World.alloc _ _ = w9
  obtain ⟨g, hg⟩ : ∃ g, g = w8.heap.size := ⟨_, rfl⟩
  have h9 : Below w8.heap.size w8 w9 := by rw [← hwb]; exact (Below.refl _ _).alloc (Nat.le_refl _) _
  have BX : Hid (Blk w9 g 46 #[.int .i64 2, .int .i64 0, .slice X4 2 x4, .slice Y4 2 y4]) := Lib.hid (by rw [← hwb, hg]; exact Blk.new _ _ _)
  rw [← hg]
  clear hwb hg
  have b9 := Lib.hid (below_seq b8.out h9)
  have s4 := Lib.hid (S4.out.keep h9)
  have t4 := Lib.hid (T4.out.keep h9)
  have v1 := Lib.hid (W1.out.keep h9)
  have v2 := Lib.hid (W2.out.keep h9)
  have v3 := Lib.hid (W3.out.keep h9)
  clear h9 b8 S4 T4 W1 W2 W3
  go_wp2_with fail
  refine (lamp_r _).mono ?_
  rintro r w10 ⟨⟨A5, B5, C5, c5, d5, e5, rfl, r5⟩, h1⟩
  have b10 := Lib.hid (below_seq b9.out h1)
  have R5 := Lib.hid r5
  have S4 := Lib.hid (s4.out.keep h1)
  have T4 := Lib.hid (t4.out.keep h1)
  have W1 := Lib.hid (v1.out.keep h1)
  have W2 := Lib.hid (v2.out.keep h1)
  have W3 := Lib.hid (v3.out.keep h1)
  have BY := Lib.hid (BX.out.keep h1)
  clear h1 r5 b9 s4 t4 v1 v2 v3 BX
  go_wp2_with fail
  refine (awk5 R5.out).mono ?_
  rintro r w11 ⟨rfl, h1⟩
  have b11 := Lib.hid (below_seq b10.out h1)
  have s4 := Lib.hid (S4.out.keep h1)
  have t4 := Lib.hid (T4.out.keep h1)
  have v1 := Lib.hid (W1.out.keep h1)
  have v2 := Lib.hid (W2.out.keep h1)
  have v3 := Lib.hid (W3.out.keep h1)
  have BX := Lib.hid (BY.out.keep h1)
  clear h1 b10 S4 T4 W1 W2 W3 BY R5
  go_wp2_with fail
  refine (sev_b rfl (v1.out.keep ((Below.refl _ _).alloc (Nat.le_refl _) _)) (rdl_lit _ _ [(5, 0, 1), (9, 0, 2), (19, 1, 0)] _ rfl (by simp))).mono ?_
  rintro r w12 ⟨rfl, h1⟩
  replace h1 := below_lit h1
  have b12 := Lib.hid (below_seq b11.out h1)
  have S4 := Lib.hid (s4.out.keep h1)
  have T4 := Lib.hid (t4.out.keep h1)
  have W2 := Lib.hid (v2.out.keep h1)
  have W3 := Lib.hid (v3.out.keep h1)
  have BY := Lib.hid (BX.out.keep h1)
  clear h1 b11 s4 t4 v1 v2 v3 BX
  go_wp2_with fail
  refine (sev_b rfl (W2.out.keep ((Below.refl _ _).alloc (Nat.le_refl _) _)) (rdl_lit _ _ [(5, 0, 1), (15, 1, 0), (15, 0, 1), (25, 1, 0)] _ rfl (by simp))).mono ?_
  rintro r w13 ⟨rfl, h1⟩
  replace h1 := below_lit h1
  have b13 := Lib.hid (below_seq b12.out h1)
  have s4 := Lib.hid (S4.out.keep h1)
  have t4 := Lib.hid (T4.out.keep h1)
  have v3 := Lib.hid (W3.out.keep h1)
  have BX := Lib.hid (BY.out.keep h1)
  clear h1 b12 S4 T4 W2 W3 BY
  go_wp2_with fail
  refine (sbb_b rfl (v3.out.keep ((((Below.refl _ _).alloc (Nat.le_refl _) _).alloc (by simp) _).alloc (by simp; omega) _)) (rdbb_two (xs := [false]) (ys := [true]) (blk_at _ _ _ (by simp)) rfl rfl (rdb_one (((blk_at _ _ _ (by simp)).alloc _).alloc _)) (rdb_one ((blk_at _ _ _ (by simp)).alloc _)))).mono ?_
  rintro r w14 ⟨rfl, h1⟩
  replace h1 := below_lit (below_lit (below_lit h1))
  have b14 := Lib.hid (below_seq b13.out h1)
  have S4 := Lib.hid (s4.out.keep h1)
  have T4 := Lib.hid (t4.out.keep h1)
  have BY := BX.out.keep h1
  clear h1 b13 s4 t4 v3 BX
  have a0 := BY.cell 0
  have a1 := BY.cell 1
  have a2 := BY.cell 2
  have a3 := BY.cell 3
  simp at a0 a1 a2 a3
  clear BY
  go_wp2_with fail
  have hb6 : ∀ o1 o2 o3 o4 o5 o6 : Obj, Below w14.heap.size w14 ((((((w14.alloc o1).alloc o2).alloc o3).alloc o4).alloc o5).alloc o6) := fun o1 o2 o3 o4 o5 o6 => (((((((Below.refl _ _).alloc (Nat.le_refl _) _).alloc (by simp) _).alloc (by simp; omega) _).alloc (by simp; omega) _).alloc (by simp; omega) _).alloc (by simp; omega) _)
  refine (s6_b (nx := [[1, 0], [1, 0]]) (out := [[1014, 0], [2016, 1]]) rfl rfl (S4.out.keep (hb6 _ _ _ _ _ _)) (T4.out.keep (hb6 _ _ _ _ _ _)) ?_ ?_).mono ?_
  · exact rdm_two (((((blk_at _ _ _ (by simp)).alloc _).alloc _).alloc _)) rfl rfl (rd_two ((((((blk_at _ _ _ (by simp)).alloc _).alloc _).alloc _).alloc _).alloc _)) (rd_two (((((blk_at _ _ _ (by simp)).alloc _).alloc _).alloc _).alloc _))
  · exact rdm_two (blk_at _ _ _ (by simp)) rfl rfl (rd_two (((blk_at _ _ _ (by simp)).alloc _).alloc _)) (rd_two ((blk_at _ _ _ (by simp)).alloc _))
  rintro r w15 ⟨rfl, h1⟩
  replace h1 := below_lit (below_lit (below_lit (below_lit (below_lit (below_lit h1)))))
  have b15 := Lib.hid (below_seq b14.out h1)
  clear h1 b14 S4 T4 a0 a1 a2 a3 hb6
  go_wp2_with fail
  go_ret
  exact ⟨rfl, b15.out⟩
end Go.Proofs.Ytpcoddbkcelaoaa
