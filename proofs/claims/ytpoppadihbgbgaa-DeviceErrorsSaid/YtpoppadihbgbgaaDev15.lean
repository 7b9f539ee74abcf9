/- Devices: Reset of the reference. -/
import Derived.Test.YtpoppadihbgbgaaDev14
namespace Go.Proofs.Ytpoppadihbgbgaa
open Go.RowKit
theorem RowD.setResets {w : World} {k t : Nat} {x : Dv} {A B C : Option Addr} {c d e : Nat} (h : RowD w k t x A c B d C e) (v : Int) : RowD (w.setCell ⟨k, 13, none⟩ (.int .i64 v)) k t { x with resets := v } A c B d C e := by
  unfold RowD at *
  rw [heap_setCell_same w k 13 _ t _ h]
  rfl
theorem RowD.setSteps {w : World} {k t : Nat} {x : Dv} {A B C : Option Addr} {c d e : Nat} (h : RowD w k t x A c B d C e) (v : Int) : RowD (w.setCell ⟨k, 12, none⟩ (.int .i64 v)) k t { x with steps := v } A c B d C e := by
  unfold RowD at *
  rw [heap_setCell_same w k 12 _ t _ h]
  rfl
theorem z_oth {w : World} {g k j t : Nat} {z : Array Value} {u : Value} (h : w.heap[g]? = some (.cells z t)) (hne : g ≠ k) : (w.setCell ⟨k, j, none⟩ u).heap[g]? = some (.cells z t) := (heap_setCell_other w ⟨k, j, none⟩ g u hne).trans h
theorem cnt_nextR {x : Dv} (h : OkD x) : cntB (nextR x) = (!outB (x.resets + 1) 1125899906842624 && !outB (x.time + x.rs) 1125899906842624) := by
  unfold cntB nextR
  rw [outB_no h.steps0 h.steps1]; rfl
set_option maxRecDepth 100000 in
set_option maxHeartbeats 4000000 in
theorem Reset_r (x : Dv) (A B C : Option Addr) (c d e : Nat) (w : World) (h : RdD w A B C x) :
    Calls Try.prog 11 #[(Value.agg #[Value.int IntKind.i64 (Dv.I x), Value.int IntKind.i64 (Dv.S x), Value.slice A (Dv.nx x).length c, Value.slice B (Dv.out x).length d, Value.int IntKind.i64 (Dv.st x), Value.bool (Dv.rdy x), Value.slice C (Dv.step x).length e, Value.int IntKind.i64 (Dv.rs x), Value.int IntKind.i64 (Dv.lost x), Value.int IntKind.i64 (Dv.wrong x), Value.int IntKind.i64 (Dv.crash x), Value.int IntKind.u64 (Dv.seed x), Value.int IntKind.i64 (Dv.steps x), Value.int IntKind.i64 (Dv.resets x), Value.int IntKind.i64 (Dv.time x)])] w (DevR (rsX x) (.int .i64 (rsE x)) w) := by
  have HM := Lib.hid h
  clear h
  go_enter Try.func11, Try.ntmps11
  go_wp2_with fail
  obtain ⟨z, hz⟩ : ∃ z : Array Value, z = #[Value.int IntKind.i64 0, Value.int IntKind.i64 0, Value.slice none 0 0, Value.slice none 0 0,
          Value.int IntKind.i64 0, Value.bool false, Value.slice none 0 0, Value.int IntKind.i64 0,
          Value.int IntKind.i64 0, Value.int IntKind.i64 0, Value.int IntKind.i64 0, Value.int IntKind.u64 0,
          Value.int IntKind.i64 0, Value.int IntKind.i64 0, Value.int IntKind.i64 0] := ⟨_, rfl⟩
  rw [← hz]
  have hzs : z.size = 15 := by rw [hz]; rfl
  clear hz
  obtain ⟨w0, hw0⟩ : ∃ w0, w0 = (w.alloc (.cells (#[Value.int IntKind.i64 (Dv.I x), Value.int IntKind.i64 (Dv.S x), Value.slice A (Dv.nx x).length c, Value.slice B (Dv.out x).length d, Value.int IntKind.i64 (Dv.st x), Value.bool (Dv.rdy x), Value.slice C (Dv.step x).length e, Value.int IntKind.i64 (Dv.rs x), Value.int IntKind.i64 (Dv.lost x), Value.int IntKind.i64 (Dv.wrong x), Value.int IntKind.i64 (Dv.crash x), Value.int IntKind.u64 (Dv.seed x), Value.int IntKind.i64 (Dv.steps x), Value.int IntKind.i64 (Dv.resets x), Value.int IntKind.i64 (Dv.time x)]) 32)).alloc (.cells z 32) := ⟨_, rfl⟩
  have HX : Hid (RowD w0 w.heap.size 32 x A c B d C e) := Lib.hid (by rw [hw0]; unfold RowD; rw [heap_alloc_old _ _ (size_new _ _), heap_alloc_new])
  have HZ : Hid (w0.heap[w.heap.size + 1]? = some (.cells z 32)) := Lib.hid (by rw [hw0, ← size_alloc w (.cells (#[Value.int IntKind.i64 (Dv.I x), Value.int IntKind.i64 (Dv.S x), Value.slice A (Dv.nx x).length c, Value.slice B (Dv.out x).length d, Value.int IntKind.i64 (Dv.st x), Value.bool (Dv.rdy x), Value.slice C (Dv.step x).length e, Value.int IntKind.i64 (Dv.rs x), Value.int IntKind.i64 (Dv.lost x), Value.int IntKind.i64 (Dv.wrong x), Value.int IntKind.i64 (Dv.crash x), Value.int IntKind.u64 (Dv.seed x), Value.int IntKind.i64 (Dv.steps x), Value.int IntKind.i64 (Dv.resets x), Value.int IntKind.i64 (Dv.time x)]) 32), heap_alloc_new])
  have hbel : Below w.heap.size w w0 := by rw [hw0]; exact ((Below.refl _ _).alloc (Nat.le_refl _) _).alloc (by rw [size_alloc]; omega) _
  have hlt : w.heap.size + 1 < w0.heap.size := by rw [hw0, size_alloc, size_alloc]; omega
  rw [← hw0]
  clear hw0
  refine (validD_r x A B C c d e w0 (HM.out.keep hbel)).mono ?_
  rintro r w1 ⟨rfl, hb⟩
  replace HX := Lib.hid (HX.out.keep (Nat.lt_of_succ_lt hlt) hb)
  replace HZ := Lib.hid ((hb.block _ hlt).trans HZ.out)
  replace hbel := below_seq hbel hb
  replace hlt := Nat.lt_of_lt_of_le hlt hb.size
  clear hb
  by_cases hv : validD x = 0
  rotate_left
  · have hb := ne0 hv
    have HE : Hid (rsE x = validD x ∧ rsX x = x) := Lib.hid ⟨if_neg hv, if_neg hv⟩
    clear hv
    go_upto_region 2 with fail
    refine wp_region_any (by kernel_rfl) ?_
    change wpAny _ _ _ _ _ _ _ (World.drew _)
    generalize hwa : World.drew _ = wa
    replace HX := Lib.hid (show RowD wa w.heap.size 32 x A c B d C e by rw [← hwa]; exact HX.out)
    replace HZ := Lib.hid (show wa.heap[w.heap.size + 1]? = some (.cells z 32) by rw [← hwa]; exact HZ.out)
    replace hbel : Below w.heap.size w wa := by rw [← hwa]; exact hbel.drew
    replace hlt : w.heap.size + 1 < wa.heap.size := by rw [← hwa]; exact hlt
    clear hwa
    refine wpAny_ready (rs := [0, 1]) (by kernel_rfl) (by simp) ?_
    refine AllReady.cons rfl (fun K hK => ?_) (AllReady.cons rfl (fun K hK => ?_) AllReady.nil)
    · skip
      rw [if_pos (by rfl)]
      refine wp_load_row 32 _ rfl w.heap.size rfl 32 _ (0, 0) _ HX.out Try.underlying32 rfl (by kernel_rfl) ?_
      refine hK _ _ ?_
      clear hK K
      change wpAny _ _ _ _ _ _ (Act.put _ (some 7) _) _
      try simp only [Act.put, List.setIfInBounds_toArray, List.set_cons_zero, List.set_cons_succ]
      refine wpAny_ready (rs := [1]) (by kernel_rfl) (by simp) ?_
      refine AllReady.cons rfl (fun K hK => ?_) AllReady.nil
      rw [if_pos (by rfl)]
      refine wp_load_row 32 _ rfl w.heap.size rfl 32 _ (0, 0) _ HX.out Try.underlying32 rfl (by kernel_rfl) ?_
      refine hK _ _ ?_
      clear hK K
      change wpAny _ _ _ _ _ _ (Act.put _ (some 8) _) _
      try simp only [Act.put, List.setIfInBounds_toArray, List.set_cons_zero, List.set_cons_succ]
      refine wpAny_ready (rs := [2]) (by kernel_rfl) (by simp) ?_
      refine AllReady.cons rfl (fun K hK => ?_) AllReady.nil
      try go_simp
      refine (validD_r x A B C c d e _ (HM.out.keep hbel)).mono ?_
      rintro r wv ⟨rfl, hb⟩
      refine hK _ _ ?_
      clear hK K
      replace HX := Lib.hid (HX.out.keep (Nat.lt_of_succ_lt hlt) hb)
      replace HZ := Lib.hid ((hb.block _ hlt).trans HZ.out)
      replace hbel := below_seq hbel hb
      replace hlt := Nat.lt_of_lt_of_le hlt hb.size
      clear hb
      try clear wa
      rename World => wa
      try simp only [Act.put, List.setIfInBounds_toArray, List.set_cons_zero, List.set_cons_succ]
      refine wpAny_ready (rs := [3]) (by kernel_rfl) (by simp) ?_
      refine AllReady.cons rfl (fun K hK => ?_) AllReady.nil
      rw [if_pos (by rfl)]
      refine wp_store_row 32 _ _ rfl (w.heap.size + 1) _ rfl rfl 32 z HZ.out (by kernel_rfl) hzs (dc_one _ _ _ _ _ _ _) ?_
      refine hK _ _ ?_
      clear hK K
      change wpAny _ _ _ _ _ _ (Act.put _ none _) _
      try simp only [Act.put]
      refine take1 (i := 4) (d := some 3) (v := ?_) rfl rfl (by kernel_rfl) (by kernel_rfl) (by kernel_rfl) (fun _ _ _ h => h) (Or.inl ⟨by rfl, ?_⟩) ?_
      rotate_left
      · intro w; first | (go_simp; done) | (go_simp; with_reducible rfl)
      simp only [Act.put, List.setIfInBounds_toArray, List.set_cons_zero, List.set_cons_succ]
      refine wpAny_done (by kernel_rfl) ?_ _
      go_wp2_with fail
      have hbz := belowRow hbel (Nat.le_succ w.heap.size) (#[Value.int IntKind.i64 (Dv.I x), Value.int IntKind.i64 (Dv.S x), Value.slice A (Dv.nx x).length c, Value.slice B (Dv.out x).length d, Value.int IntKind.i64 (Dv.st x), Value.bool (Dv.rdy x), Value.slice C (Dv.step x).length e, Value.int IntKind.i64 (Dv.rs x), Value.int IntKind.i64 (Dv.lost x), Value.int IntKind.i64 (Dv.wrong x), Value.int IntKind.i64 (Dv.crash x), Value.int IntKind.u64 (Dv.seed x), Value.int IntKind.i64 (Dv.steps x), Value.int IntKind.i64 (Dv.resets x), Value.int IntKind.i64 (Dv.time x)])
      refine ret_d2 (RowD.put HZ.out x A c B d C e) rfl rfl rfl ⟨⟨A, c, B, d, C, e, by rw [HE.out.1, HE.out.2]; rfl, ?_⟩, hbz⟩
      rw [HE.out.2]
      exact HM.out.keep hbz
    · skip
      rw [if_pos (by rfl)]
      refine wp_load_row 32 _ rfl w.heap.size rfl 32 _ (0, 0) _ HX.out Try.underlying32 rfl (by kernel_rfl) ?_
      refine hK _ _ ?_
      clear hK K
      change wpAny _ _ _ _ _ _ (Act.put _ (some 8) _) _
      try simp only [Act.put, List.setIfInBounds_toArray, List.set_cons_zero, List.set_cons_succ]
      refine wpAny_ready (rs := [0, 2]) (by kernel_rfl) (by simp) ?_
      refine AllReady.cons rfl (fun K hK => ?_) (AllReady.cons rfl (fun K hK => ?_) AllReady.nil)
      · skip
        rw [if_pos (by rfl)]
        refine wp_load_row 32 _ rfl w.heap.size rfl 32 _ (0, 0) _ HX.out Try.underlying32 rfl (by kernel_rfl) ?_
        refine hK _ _ ?_
        clear hK K
        change wpAny _ _ _ _ _ _ (Act.put _ (some 7) _) _
        try simp only [Act.put, List.setIfInBounds_toArray, List.set_cons_zero, List.set_cons_succ]
        refine wpAny_ready (rs := [2]) (by kernel_rfl) (by simp) ?_
        refine AllReady.cons rfl (fun K hK => ?_) AllReady.nil
        try go_simp
        refine (validD_r x A B C c d e _ (HM.out.keep hbel)).mono ?_
        rintro r wv ⟨rfl, hb⟩
        refine hK _ _ ?_
        clear hK K
        replace HX := Lib.hid (HX.out.keep (Nat.lt_of_succ_lt hlt) hb)
        replace HZ := Lib.hid ((hb.block _ hlt).trans HZ.out)
        replace hbel := below_seq hbel hb
        replace hlt := Nat.lt_of_lt_of_le hlt hb.size
        clear hb
        try clear wa
        rename World => wa
        try simp only [Act.put, List.setIfInBounds_toArray, List.set_cons_zero, List.set_cons_succ]
        refine wpAny_ready (rs := [3]) (by kernel_rfl) (by simp) ?_
        refine AllReady.cons rfl (fun K hK => ?_) AllReady.nil
        rw [if_pos (by rfl)]
        refine wp_store_row 32 _ _ rfl (w.heap.size + 1) _ rfl rfl 32 z HZ.out (by kernel_rfl) hzs (dc_one _ _ _ _ _ _ _) ?_
        refine hK _ _ ?_
        clear hK K
        change wpAny _ _ _ _ _ _ (Act.put _ none _) _
        try simp only [Act.put]
        refine take1 (i := 4) (d := some 3) (v := ?_) rfl rfl (by kernel_rfl) (by kernel_rfl) (by kernel_rfl) (fun _ _ _ h => h) (Or.inl ⟨by rfl, ?_⟩) ?_
        rotate_left
        · intro w; first | (go_simp; done) | (go_simp; with_reducible rfl)
        simp only [Act.put, List.setIfInBounds_toArray, List.set_cons_zero, List.set_cons_succ]
        refine wpAny_done (by kernel_rfl) ?_ _
        go_wp2_with fail
        have hbz := belowRow hbel (Nat.le_succ w.heap.size) (#[Value.int IntKind.i64 (Dv.I x), Value.int IntKind.i64 (Dv.S x), Value.slice A (Dv.nx x).length c, Value.slice B (Dv.out x).length d, Value.int IntKind.i64 (Dv.st x), Value.bool (Dv.rdy x), Value.slice C (Dv.step x).length e, Value.int IntKind.i64 (Dv.rs x), Value.int IntKind.i64 (Dv.lost x), Value.int IntKind.i64 (Dv.wrong x), Value.int IntKind.i64 (Dv.crash x), Value.int IntKind.u64 (Dv.seed x), Value.int IntKind.i64 (Dv.steps x), Value.int IntKind.i64 (Dv.resets x), Value.int IntKind.i64 (Dv.time x)])
        refine ret_d2 (RowD.put HZ.out x A c B d C e) rfl rfl rfl ⟨⟨A, c, B, d, C, e, by rw [HE.out.1, HE.out.2]; rfl, ?_⟩, hbz⟩
        rw [HE.out.2]
        exact HM.out.keep hbz
      · skip
        try go_simp
        refine (validD_r x A B C c d e _ (HM.out.keep hbel)).mono ?_
        rintro r wv ⟨rfl, hb⟩
        refine hK _ _ ?_
        clear hK K
        replace HX := Lib.hid (HX.out.keep (Nat.lt_of_succ_lt hlt) hb)
        replace HZ := Lib.hid ((hb.block _ hlt).trans HZ.out)
        replace hbel := below_seq hbel hb
        replace hlt := Nat.lt_of_lt_of_le hlt hb.size
        clear hb
        try clear wa
        rename World => wa
        try simp only [Act.put, List.setIfInBounds_toArray, List.set_cons_zero, List.set_cons_succ]
        refine wpAny_ready (rs := [0]) (by kernel_rfl) (by simp) ?_
        refine AllReady.cons rfl (fun K hK => ?_) AllReady.nil
        rw [if_pos (by rfl)]
        refine wp_load_row 32 _ rfl w.heap.size rfl 32 _ (0, 0) _ HX.out Try.underlying32 rfl (by kernel_rfl) ?_
        refine hK _ _ ?_
        clear hK K
        change wpAny _ _ _ _ _ _ (Act.put _ (some 7) _) _
        try simp only [Act.put, List.setIfInBounds_toArray, List.set_cons_zero, List.set_cons_succ]
        refine wpAny_ready (rs := [3]) (by kernel_rfl) (by simp) ?_
        refine AllReady.cons rfl (fun K hK => ?_) AllReady.nil
        rw [if_pos (by rfl)]
        refine wp_store_row 32 _ _ rfl (w.heap.size + 1) _ rfl rfl 32 z HZ.out (by kernel_rfl) hzs (dc_one _ _ _ _ _ _ _) ?_
        refine hK _ _ ?_
        clear hK K
        change wpAny _ _ _ _ _ _ (Act.put _ none _) _
        try simp only [Act.put]
        refine take1 (i := 4) (d := some 3) (v := ?_) rfl rfl (by kernel_rfl) (by kernel_rfl) (by kernel_rfl) (fun _ _ _ h => h) (Or.inl ⟨by rfl, ?_⟩) ?_
        rotate_left
        · intro w; first | (go_simp; done) | (go_simp; with_reducible rfl)
        simp only [Act.put, List.setIfInBounds_toArray, List.set_cons_zero, List.set_cons_succ]
        refine wpAny_done (by kernel_rfl) ?_ _
        go_wp2_with fail
        have hbz := belowRow hbel (Nat.le_succ w.heap.size) (#[Value.int IntKind.i64 (Dv.I x), Value.int IntKind.i64 (Dv.S x), Value.slice A (Dv.nx x).length c, Value.slice B (Dv.out x).length d, Value.int IntKind.i64 (Dv.st x), Value.bool (Dv.rdy x), Value.slice C (Dv.step x).length e, Value.int IntKind.i64 (Dv.rs x), Value.int IntKind.i64 (Dv.lost x), Value.int IntKind.i64 (Dv.wrong x), Value.int IntKind.i64 (Dv.crash x), Value.int IntKind.u64 (Dv.seed x), Value.int IntKind.i64 (Dv.steps x), Value.int IntKind.i64 (Dv.resets x), Value.int IntKind.i64 (Dv.time x)])
        refine ret_d2 (RowD.put HZ.out x A c B d C e) rfl rfl rfl ⟨⟨A, c, B, d, C, e, by rw [HE.out.1, HE.out.2]; rfl, ?_⟩, hbz⟩
        rw [HE.out.2]
        exact HM.out.keep hbz
  have HOK := Lib.hid (okD_of hv)
  have HE : Hid (rsE x = resetE x ∧ rsX x = resetX x) := Lib.hid ⟨if_pos hv, if_pos hv⟩
  rw [hv]
  clear hv w0
  have b1 := HOK.out.resets0
  have b2 := HOK.out.resets1
  have b3 := HOK.out.time0
  have b4 := HOK.out.time1
  have b5 := HOK.out.rs0
  have b6 := HOK.out.rs1
  have c7 := HX.out.box.c7
  have c13 := HX.out.box.c13
  have c14 := HX.out.box.c14
  go_wp2_with fail
  refine (counter_any _ _).mono ?_
  rintro r w2 ⟨rfl, rfl⟩
  cases q1 : outB (x.resets + 1) 1125899906842624 with
  | true =>
    have HR : Hid (resetE x = 11 ∧ resetX x = x) := Lib.hid (by unfold resetE resetX; rw [cnt_nextR HOK.out, q1]; exact ⟨rfl, rfl⟩)
    clear q1
    go_upto_region 4 with fail
    go_wp2_with (first | (refine wpList_load_row rfl 32 _ rfl w.heap.size rfl 32 _ (0, 0) _ HX.out Try.underlying32 rfl (by kernel_rfl) ?_) | (refine wpList_store_row rfl 32 _ _ rfl (w.heap.size + 1) _ rfl rfl 32 z HZ.out (by kernel_rfl) hzs (dc_one _ _ _ _ _ _ _) ?_))
    have hbz := belowRow hbel (Nat.le_succ w.heap.size) (#[Value.int IntKind.i64 (Dv.I x), Value.int IntKind.i64 (Dv.S x), Value.slice A (Dv.nx x).length c, Value.slice B (Dv.out x).length d, Value.int IntKind.i64 (Dv.st x), Value.bool (Dv.rdy x), Value.slice C (Dv.step x).length e, Value.int IntKind.i64 (Dv.rs x), Value.int IntKind.i64 (Dv.lost x), Value.int IntKind.i64 (Dv.wrong x), Value.int IntKind.i64 (Dv.crash x), Value.int IntKind.u64 (Dv.seed x), Value.int IntKind.i64 (Dv.steps x), Value.int IntKind.i64 (Dv.resets x), Value.int IntKind.i64 (Dv.time x)])
    refine ret_d2 (RowD.put HZ.out x A c B d C e) rfl rfl rfl ⟨⟨A, c, B, d, C, e, by rw [HE.out.1, HE.out.2, HR.out.1, HR.out.2]; rfl, ?_⟩, hbz⟩
    rw [HE.out.2, HR.out.2]
    exact HM.out.keep hbz
  | false =>
  have Q1 := Lib.hid q1
  clear q1
  go_wp2_with fail
  refine (counter_any _ _).mono ?_
  rintro r w2 ⟨rfl, rfl⟩
  cases q2 : outB (x.time + x.rs) 1125899906842624 with
  | true =>
    have HR : Hid (resetE x = 11 ∧ resetX x = x) := Lib.hid (by unfold resetE resetX; rw [cnt_nextR HOK.out, Q1.out, q2]; exact ⟨rfl, rfl⟩)
    clear q2
    go_upto_region 4 with fail
    go_wp2_with (first | (refine wpList_load_row rfl 32 _ rfl w.heap.size rfl 32 _ (0, 0) _ HX.out Try.underlying32 rfl (by kernel_rfl) ?_) | (refine wpList_store_row rfl 32 _ _ rfl (w.heap.size + 1) _ rfl rfl 32 z HZ.out (by kernel_rfl) hzs (dc_one _ _ _ _ _ _ _) ?_))
    have hbz := belowRow hbel (Nat.le_succ w.heap.size) (#[Value.int IntKind.i64 (Dv.I x), Value.int IntKind.i64 (Dv.S x), Value.slice A (Dv.nx x).length c, Value.slice B (Dv.out x).length d, Value.int IntKind.i64 (Dv.st x), Value.bool (Dv.rdy x), Value.slice C (Dv.step x).length e, Value.int IntKind.i64 (Dv.rs x), Value.int IntKind.i64 (Dv.lost x), Value.int IntKind.i64 (Dv.wrong x), Value.int IntKind.i64 (Dv.crash x), Value.int IntKind.u64 (Dv.seed x), Value.int IntKind.i64 (Dv.steps x), Value.int IntKind.i64 (Dv.resets x), Value.int IntKind.i64 (Dv.time x)])
    refine ret_d2 (RowD.put HZ.out x A c B d C e) rfl rfl rfl ⟨⟨A, c, B, d, C, e, by rw [HE.out.1, HE.out.2, HR.out.1, HR.out.2]; rfl, ?_⟩, hbz⟩
    rw [HE.out.2, HR.out.2]
    exact HM.out.keep hbz
  | false =>
  have HR : Hid (resetE x = 0 ∧ resetX x = nextR x) := Lib.hid (by unfold resetE resetX; rw [cnt_nextR HOK.out, Q1.out, q2]; exact ⟨rfl, rfl⟩)
  clear q2
  have c1 := HX.out.box.c1
  have c4 := HX.out.box.c4
  have c5 := HX.out.box.c5
  have f4 := HX.out.fro 4
  have f5 := HX.out.fro 5
  have f13 := HX.out.fro 13
  have f14 := HX.out.fro 14
  go_upto_region 9 with fail
  generalize hw5 : World.setCell _ _ _ = w5
  have HX5 : Hid (RowD w5 w.heap.size 32 (nextR x) A c B d C e) := Lib.hid (by rw [← hw5]; exact (((HX.out.setSt x.S).setRdy true).setResets (x.resets + 1)).setT (x.time + x.rs))
  have HZ5 : Hid (w5.heap[w.heap.size + 1]? = some (.cells z 32)) := Lib.hid (by rw [← hw5]; exact z_oth (z_oth (z_oth (z_oth HZ.out (Nat.succ_ne_self _)) (Nat.succ_ne_self _)) (Nat.succ_ne_self _)) (Nat.succ_ne_self _))
  have hbel5 : Below w.heap.size w w5 := by rw [← hw5]; exact (((hbel.setCell (Nat.le_refl _) _).setCell (Nat.le_refl _) _).setCell (Nat.le_refl _) _).setCell (Nat.le_refl _) _
  clear hw5 c1 c4 c5 c7 c13 c14 f4 f5 f13 f14 HX HZ hbel
  go_wp2_with (first | (refine wpList_load_row rfl 32 _ rfl w.heap.size rfl 32 _ (0, 0) _ HX5.out Try.underlying32 rfl (by kernel_rfl) ?_) | (refine wpList_store_row rfl 32 _ _ rfl (w.heap.size + 1) _ rfl rfl 32 z HZ5.out (by kernel_rfl) hzs (dc_one _ _ _ _ _ _ _) ?_))
  have hbz := belowRow hbel5 (Nat.le_succ w.heap.size) (#[Value.int IntKind.i64 (Dv.I (nextR x)), Value.int IntKind.i64 (Dv.S (nextR x)), Value.slice A (Dv.nx (nextR x)).length c, Value.slice B (Dv.out (nextR x)).length d, Value.int IntKind.i64 (Dv.st (nextR x)), Value.bool (Dv.rdy (nextR x)), Value.slice C (Dv.step (nextR x)).length e, Value.int IntKind.i64 (Dv.rs (nextR x)), Value.int IntKind.i64 (Dv.lost (nextR x)), Value.int IntKind.i64 (Dv.wrong (nextR x)), Value.int IntKind.i64 (Dv.crash (nextR x)), Value.int IntKind.u64 (Dv.seed (nextR x)), Value.int IntKind.i64 (Dv.steps (nextR x)), Value.int IntKind.i64 (Dv.resets (nextR x)), Value.int IntKind.i64 (Dv.time (nextR x))])
  refine ret_d2 (RowD.put HZ5.out (nextR x) A c B d C e) rfl rfl rfl ⟨⟨A, c, B, d, C, e, by rw [HE.out.1, HE.out.2, HR.out.1, HR.out.2]; rfl, ?_⟩, hbz⟩
  rw [HE.out.2, HR.out.2]
  exact (HM.out.keep hbz).same ⟨rfl, rfl, rfl⟩
end Go.Proofs.Ytpoppadihbgbgaa
