/- DeviceQueries: the walk of the law. -/
import Derived.Test.YtpoppadihbgbgaaDev23
import Derived.Test.YtpoppadihbgbgaaDev24
namespace Go.Proofs.Ytpoppadihbgbgaa
open Go.RowKit
set_option maxRecDepth 100000 in
set_option maxHeartbeats 8000000 in
theorem queries_w (x : Dv) (ws : List Int) (A B C F : Option Addr) (c d e f : Nat) (w : World) (h : RdD w A B C x) (hw : Rd w F ws) (s0 : 0 ≤ x.seed) (s1 : x.seed < 18446744073709551616) :
    Calls Try.prog 6 #[(Value.agg #[Value.int IntKind.i64 (Dv.I x), Value.int IntKind.i64 (Dv.S x), Value.slice A (Dv.nx x).length c, Value.slice B (Dv.out x).length d, Value.int IntKind.i64 (Dv.st x), Value.bool (Dv.rdy x), Value.slice C (Dv.step x).length e, Value.int IntKind.i64 (Dv.rs x), Value.int IntKind.i64 (Dv.lost x), Value.int IntKind.i64 (Dv.wrong x), Value.int IntKind.i64 (Dv.crash x), Value.int IntKind.u64 (Dv.seed x), Value.int IntKind.i64 (Dv.steps x), Value.int IntKind.i64 (Dv.resets x), Value.int IntKind.i64 (Dv.time x)]), .slice F ws.length f] w fun r w' => r = .returned (.bool true) ∧ Below w.heap.size w w' := by
  have mw := hw.1
  have HM := Lib.hid h
  have HW := Lib.hid hw
  have HS := Lib.hid (And.intro s0 s1)
  clear h hw s0 s1
  go_enter Try.func6, Try.ntmps6
  go_wp2_with fail
  obtain ⟨w0, hw0⟩ : ∃ w0, w0 = w.alloc (.cells (#[Value.int IntKind.i64 (Dv.I x), Value.int IntKind.i64 (Dv.S x), Value.slice A (Dv.nx x).length c, Value.slice B (Dv.out x).length d, Value.int IntKind.i64 (Dv.st x), Value.bool (Dv.rdy x), Value.slice C (Dv.step x).length e, Value.int IntKind.i64 (Dv.rs x), Value.int IntKind.i64 (Dv.lost x), Value.int IntKind.i64 (Dv.wrong x), Value.int IntKind.i64 (Dv.crash x), Value.int IntKind.u64 (Dv.seed x), Value.int IntKind.i64 (Dv.steps x), Value.int IntKind.i64 (Dv.resets x), Value.int IntKind.i64 (Dv.time x)]) 32) := ⟨_, rfl⟩
  have HX : Hid (RowD w0 w.heap.size 32 x A c B d C e) := Lib.hid (by rw [hw0]; exact Go.heap_alloc_new _ _)
  have hbel : Below w.heap.size w w0 := by rw [hw0]; exact (Below.refl _ _).alloc (Nat.le_refl _) _
  have hlt : w.heap.size < w0.heap.size := by rw [hw0]; exact size_new _ _
  rw [← hw0]
  clear hw0
  refine (great_b x.I x.S x.rs x.nx x.out x.step A B C c d e w0 (HM.out.keep hbel).nx (HM.out.keep hbel).out (HM.out.keep hbel).step).mono ?_
  rintro r w1 ⟨⟨b, rfl⟩, hb⟩
  replace HX := Lib.hid (HX.out.keep hlt hb)
  replace hbel := below_seq hbel hb
  replace hlt := size_lt hlt hb
  clear hb
  cases b with
  | true =>
    go_wp2_with fail
    refine (awake_t w1).mono ?_
    rintro r w2 ⟨rfl, hb⟩
    go_wp2_with fail
    go_ret
    exact ⟨rfl, below_seq hbel hb⟩
  | false =>
  by_cases hl : (100 : Int) < (ws.length : Int)
  · by_cases hl2 : (ws.length : Int) ≤ 1024
    · skip
      go_wp2_with fail
      refine (awake_t w1).mono ?_
      rintro r w2 ⟨rfl, hb⟩
      go_wp2_with fail
      go_ret
      exact ⟨rfl, below_seq hbel hb⟩
    by_cases hl3 : (2000 : Int) < (ws.length : Int)
    · skip
      go_wp2_with fail
      refine (awake_t w1).mono ?_
      rintro r w2 ⟨rfl, hb⟩
      go_wp2_with fail
      go_ret
      exact ⟨rfl, below_seq hbel hb⟩
    go_upto_region 3 with fail
    clear hl hl2
    have hwn : ws.length ≤ 1000000 := by omega
    go_wp2_with (refine wpList_load_row rfl 32 _ rfl w.heap.size rfl 32 _ (0, 0) _ HX.out Try.underlying32 rfl (by kernel_rfl) ?_)
    refine (Query_p x ws A B C F c d e f w1 (HM.out.keep hbel) (HW.out.keep hbel) HS.out.1 HS.out.2).mono ?_
    rintro r w2 ⟨⟨A2, c2, B2, d2, C2, e2, F2, f2, rfl, hm, ho⟩, hb⟩
    have HYM := Lib.hid hm
    have HYO := Lib.hid ho
    replace HX := Lib.hid (HX.out.keep hlt hb)
    replace hbel := below_seq hbel hb
    replace hlt := size_lt hlt hb
    clear hb hm ho
    go_upto_region 4 with fail
    generalize hwb : World.alloc _ _ = k2w
    have hb : Below w2.heap.size w2 k2w := by rw [← hwb]; exact (Below.refl _ _).alloc (Nat.le_refl _) _
    have HY : Hid (RowD k2w w2.heap.size 32 (qrX x ws) A2 c2 B2 d2 C2 e2) := Lib.hid (by rw [← hwb]; exact Go.heap_alloc_new _ _)
    replace HYM := Lib.hid (HYM.out.keep hb)
    replace HYO := Lib.hid (HYO.out.keep hb)
    replace HX := Lib.hid (HX.out.keep hlt hb)
    replace hbel := below_seq hbel hb
    replace hlt := size_lt hlt hb
    clear hb hwb
    go_wp2_with (refine wpList_load_row rfl 32 _ rfl w.heap.size rfl 32 _ (0, 0) _ HX.out Try.underlying32 rfl (by kernel_rfl) ?_)
    refine (Query_r x ws A B C F c d e f k2w (HM.out.keep hbel) (HW.out.keep hbel) HS.out.1 HS.out.2 hwn).mono ?_
    rintro r w3 ⟨⟨A3, c3, B3, d3, C3, e3, F3, f3, rfl, hm, ho⟩, hb⟩
    have HVM := Lib.hid hm
    have HVO := Lib.hid ho
    replace HYM := Lib.hid (HYM.out.keep hb)
    replace HYO := Lib.hid (HYO.out.keep hb)
    replace HY := Lib.hid (HY.out.keep (size_lt0 HY.out.lt) hb)
    replace hbel := below_seq hbel hb
    clear hb hm ho HX hlt
    go_upto_region 5 with fail
    generalize hwb : World.alloc _ _ = k3w
    have hb : Below w3.heap.size w3 k3w := by rw [← hwb]; exact (Below.refl _ _).alloc (Nat.le_refl _) _
    have HV : Hid (RowD k3w w3.heap.size 32 (qrX x ws) A3 c3 B3 d3 C3 e3) := Lib.hid (by rw [← hwb]; exact Go.heap_alloc_new _ _)
    replace HYM := Lib.hid (HYM.out.keep hb)
    replace HYO := Lib.hid (HYO.out.keep hb)
    replace HY := Lib.hid (HY.out.keep (size_lt0 HY.out.lt) hb)
    replace HVM := Lib.hid (HVM.out.keep hb)
    replace HVO := Lib.hid (HVO.out.keep hb)
    replace hbel := below_seq hbel hb
    clear hb hwb
    go_wp2_with (first | (refine wpList_load_row rfl 32 _ rfl w2.heap.size rfl 32 _ (0, 0) _ HY.out Try.underlying32 rfl (by kernel_rfl) ?_) | (refine wpList_load_row rfl 32 _ rfl w3.heap.size rfl 32 _ (0, 0) _ HV.out Try.underlying32 rfl (by kernel_rfl) ?_))
    refine (dev_yes (qrX x ws) A2 B2 C2 A3 B3 C3 c2 d2 e2 c3 d3 e3 k3w HYM.out HVM.out).mono ?_
    rintro r w4 ⟨rfl, hb⟩
    replace HYO := Lib.hid (HYO.out.keep hb)
    replace HVO := Lib.hid (HVO.out.keep hb)
    replace hbel := below_seq hbel hb
    clear hb HY HV HYM HVM
    go_wp2_with fail
    refine (same_yes rfl HYO.out HVO.out).mono ?_
    rintro r w5 ⟨rfl, m, rfl⟩
    replace hbel := below_drewN' hbel m
    have q1 : (qrE x ws == qrE x ws) = true := by simp
    go_wp2_with fail
    refine (awake_t _).mono ?_
    rintro r w6 ⟨rfl, hb⟩
    go_wp2_with fail
    go_ret
    exact ⟨rfl, below_seq hbel hb⟩
  · go_upto_region 3 with fail
    have hwn : ws.length ≤ 1000000 := by omega
    clear hl
    go_wp2_with (refine wpList_load_row rfl 32 _ rfl w.heap.size rfl 32 _ (0, 0) _ HX.out Try.underlying32 rfl (by kernel_rfl) ?_)
    refine (Query_p x ws A B C F c d e f w1 (HM.out.keep hbel) (HW.out.keep hbel) HS.out.1 HS.out.2).mono ?_
    rintro r w2 ⟨⟨A2, c2, B2, d2, C2, e2, F2, f2, rfl, hm, ho⟩, hb⟩
    have HYM := Lib.hid hm
    have HYO := Lib.hid ho
    replace HX := Lib.hid (HX.out.keep hlt hb)
    replace hbel := below_seq hbel hb
    replace hlt := size_lt hlt hb
    clear hb hm ho
    go_upto_region 4 with fail
    generalize hwb : World.alloc _ _ = k2w
    have hb : Below w2.heap.size w2 k2w := by rw [← hwb]; exact (Below.refl _ _).alloc (Nat.le_refl _) _
    have HY : Hid (RowD k2w w2.heap.size 32 (qrX x ws) A2 c2 B2 d2 C2 e2) := Lib.hid (by rw [← hwb]; exact Go.heap_alloc_new _ _)
    replace HYM := Lib.hid (HYM.out.keep hb)
    replace HYO := Lib.hid (HYO.out.keep hb)
    replace HX := Lib.hid (HX.out.keep hlt hb)
    replace hbel := below_seq hbel hb
    replace hlt := size_lt hlt hb
    clear hb hwb
    go_wp2_with (refine wpList_load_row rfl 32 _ rfl w.heap.size rfl 32 _ (0, 0) _ HX.out Try.underlying32 rfl (by kernel_rfl) ?_)
    refine (Query_r x ws A B C F c d e f k2w (HM.out.keep hbel) (HW.out.keep hbel) HS.out.1 HS.out.2 hwn).mono ?_
    rintro r w3 ⟨⟨A3, c3, B3, d3, C3, e3, F3, f3, rfl, hm, ho⟩, hb⟩
    have HVM := Lib.hid hm
    have HVO := Lib.hid ho
    replace HYM := Lib.hid (HYM.out.keep hb)
    replace HYO := Lib.hid (HYO.out.keep hb)
    replace HY := Lib.hid (HY.out.keep (size_lt0 HY.out.lt) hb)
    replace hbel := below_seq hbel hb
    clear hb hm ho HX hlt
    go_upto_region 5 with fail
    generalize hwb : World.alloc _ _ = k3w
    have hb : Below w3.heap.size w3 k3w := by rw [← hwb]; exact (Below.refl _ _).alloc (Nat.le_refl _) _
    have HV : Hid (RowD k3w w3.heap.size 32 (qrX x ws) A3 c3 B3 d3 C3 e3) := Lib.hid (by rw [← hwb]; exact Go.heap_alloc_new _ _)
    replace HYM := Lib.hid (HYM.out.keep hb)
    replace HYO := Lib.hid (HYO.out.keep hb)
    replace HY := Lib.hid (HY.out.keep (size_lt0 HY.out.lt) hb)
    replace HVM := Lib.hid (HVM.out.keep hb)
    replace HVO := Lib.hid (HVO.out.keep hb)
    replace hbel := below_seq hbel hb
    clear hb hwb
    go_wp2_with (first | (refine wpList_load_row rfl 32 _ rfl w2.heap.size rfl 32 _ (0, 0) _ HY.out Try.underlying32 rfl (by kernel_rfl) ?_) | (refine wpList_load_row rfl 32 _ rfl w3.heap.size rfl 32 _ (0, 0) _ HV.out Try.underlying32 rfl (by kernel_rfl) ?_))
    refine (dev_yes (qrX x ws) A2 B2 C2 A3 B3 C3 c2 d2 e2 c3 d3 e3 k3w HYM.out HVM.out).mono ?_
    rintro r w4 ⟨rfl, hb⟩
    replace HYO := Lib.hid (HYO.out.keep hb)
    replace HVO := Lib.hid (HVO.out.keep hb)
    replace hbel := below_seq hbel hb
    clear hb HY HV HYM HVM
    go_wp2_with fail
    refine (same_yes rfl HYO.out HVO.out).mono ?_
    rintro r w5 ⟨rfl, m, rfl⟩
    replace hbel := below_drewN' hbel m
    have q1 : (qrE x ws == qrE x ws) = true := by simp
    go_wp2_with fail
    refine (awake_t _).mono ?_
    rintro r w6 ⟨rfl, hb⟩
    go_wp2_with fail
    go_ret
    exact ⟨rfl, below_seq hbel hb⟩
theorem deviceQueries_walk (w : World) (a0 a1 : Int) (A2 : Option Addr) (c2 : Nat) (x2 : List (List Int)) (A3 : Option Addr) (c3 : Nat) (x3 : List (List Int)) (a4 : Int) (a5 : Bool) (A6 : Option Addr) (c6 : Nat) (x6 : List Int) (a7 a8 a9 a10 a11 a12 a13 a14 : Int) (A15 : Option Addr) (c15 : Nat) (x15 : List Int)
    (_ : (Lit.int .i64 a0).wf = true) (_ : (Lit.int .i64 a1).wf = true) (r2 : RdM .i64 w A2 x2) (_ : WfM .i64 x2) (r3 : RdM .i64 w A3 x3) (_ : WfM .i64 x3) (_ : (Lit.int .i64 a4).wf = true) (r6 : RdK .i64 w A6 x6) (_ : Wf .i64 x6) (_ : (Lit.int .i64 a7).wf = true) (_ : (Lit.int .i64 a8).wf = true) (_ : (Lit.int .i64 a9).wf = true) (_ : (Lit.int .i64 a10).wf = true) (hs : (Lit.int .u64 a11).wf = true) (_ : (Lit.int .i64 a12).wf = true) (_ : (Lit.int .i64 a13).wf = true) (_ : (Lit.int .i64 a14).wf = true) (r15 : RdK .i64 w A15 x15) (_ : Wf .i64 x15) :
    Calls Try.prog 6 #[.agg #[.int .i64 a0, .int .i64 a1, .slice A2 x2.length c2, .slice A3 x3.length c3, .int .i64 a4, .bool a5, .slice A6 x6.length c6, .int .i64 a7, .int .i64 a8, .int .i64 a9, .int .i64 a10, .int .u64 a11, .int .i64 a12, .int .i64 a13, .int .i64 a14], .slice A15 x15.length c15] w fun r w' => r = .returned (.bool true) ∧ Below w.heap.size w w' :=
  queries_w ⟨a0, a1, x2, x3, a4, a5, x6, a7, a8, a9, a10, a11, a12, a13, a14⟩ x15 A2 A3 A6 A15 c2 c3 c6 c15 w ⟨r2, r3, r6⟩ r15 (u64_bd hs).1 (u64_bd hs).2
end Go.Proofs.Ytpoppadihbgbgaa
