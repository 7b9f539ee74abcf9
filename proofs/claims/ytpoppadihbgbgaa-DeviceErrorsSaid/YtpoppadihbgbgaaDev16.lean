/- Devices: Step of the reference. -/
import Derived.Test.YtpoppadihbgbgaaDev15
import Derived.BigQuiet
namespace Go.Proofs.Ytpoppadihbgbgaa
open Go.RowKit
theorem cnt_q {n : Int} {b : Bool} (h : outB n 1125899906842624 = b) (w : World) (m : Nat) :
    Calls Try.prog 32 #[.int .i64 n] (w.drewN m) fun e w' => e = .returned (.bool (!b)) ∧ ∃ j, w' = w.drewN j :=
  (counter_any n _).mono fun e w' ⟨h1, h2⟩ => ⟨by rw [h1, h], m, h2.symm⟩
theorem cnt_nextS {x : Dv} (h : OkD x) (a : Int) : cntB (nextS x a) = (!outB (x.steps + 1) 1125899906842624 && !outB (x.time + costD1 x a) 1125899906842624) := by
  unfold cntB nextS
  rw [outB_no h.resets0 h.resets1, Bool.not_false, Bool.and_true]
theorem sp_1 {x : Dv} {a : Int} (h : validD x = 0) {E : Int} (h1 : stepE x a = E) (h0 : E ≠ 0) : spE x a = E ∧ spX x a = x ∧ spO x a = 0 := by
  unfold spE spX spO
  rw [if_pos h, if_pos h, if_pos h]
  exact ⟨h1, stepX_ne (by omega), stepO_ne (by omega)⟩
theorem sp_2 {x : Dv} {a : Int} (h : validD x = 0) (h1 : stepE x a = 0) : spE x a = 0 ∧ spX x a = moved x a ∧ spO x a = answ x (outD x a) (drawD x) := by
  unfold spE spX spO
  rw [if_pos h, if_pos h, if_pos h]
  exact ⟨h1, stepX_eq h1, stepO_eq h1⟩
/-- as DevR and DevS, with the addresses that came in -/
def DevRs (y : Dv) (v : Value) (A : Option Addr) (c : Nat) (B : Option Addr) (d : Nat) (C : Option Addr) (e : Nat) (w : World) (r : Ending) (w' : World) : Prop := r = .returned (.tuple #[(Value.agg #[Value.int IntKind.i64 (Dv.I y), Value.int IntKind.i64 (Dv.S y), Value.slice A (Dv.nx y).length c, Value.slice B (Dv.out y).length d, Value.int IntKind.i64 (Dv.st y), Value.bool (Dv.rdy y), Value.slice C (Dv.step y).length e, Value.int IntKind.i64 (Dv.rs y), Value.int IntKind.i64 (Dv.lost y), Value.int IntKind.i64 (Dv.wrong y), Value.int IntKind.i64 (Dv.crash y), Value.int IntKind.u64 (Dv.seed y), Value.int IntKind.i64 (Dv.steps y), Value.int IntKind.i64 (Dv.resets y), Value.int IntKind.i64 (Dv.time y)]), v]) ∧ Below w.heap.size w w'
def DevSs (y : Dv) (u v : Value) (A : Option Addr) (c : Nat) (B : Option Addr) (d : Nat) (C : Option Addr) (e : Nat) (w : World) (r : Ending) (w' : World) : Prop := r = .returned (.tuple #[(Value.agg #[Value.int IntKind.i64 (Dv.I y), Value.int IntKind.i64 (Dv.S y), Value.slice A (Dv.nx y).length c, Value.slice B (Dv.out y).length d, Value.int IntKind.i64 (Dv.st y), Value.bool (Dv.rdy y), Value.slice C (Dv.step y).length e, Value.int IntKind.i64 (Dv.rs y), Value.int IntKind.i64 (Dv.lost y), Value.int IntKind.i64 (Dv.wrong y), Value.int IntKind.i64 (Dv.crash y), Value.int IntKind.u64 (Dv.seed y), Value.int IntKind.i64 (Dv.steps y), Value.int IntKind.i64 (Dv.resets y), Value.int IntKind.i64 (Dv.time y)]), u, v]) ∧ Below w.heap.size w w'
set_option maxRecDepth 100000 in
set_option maxHeartbeats 4000000 in
theorem Reset_s (x : Dv) (A B C : Option Addr) (c d e : Nat) (w : World) (h : RdD w A B C x) :
    Calls Try.prog 11 #[(Value.agg #[Value.int IntKind.i64 (Dv.I x), Value.int IntKind.i64 (Dv.S x), Value.slice A (Dv.nx x).length c, Value.slice B (Dv.out x).length d, Value.int IntKind.i64 (Dv.st x), Value.bool (Dv.rdy x), Value.slice C (Dv.step x).length e, Value.int IntKind.i64 (Dv.rs x), Value.int IntKind.i64 (Dv.lost x), Value.int IntKind.i64 (Dv.wrong x), Value.int IntKind.i64 (Dv.crash x), Value.int IntKind.u64 (Dv.seed x), Value.int IntKind.i64 (Dv.steps x), Value.int IntKind.i64 (Dv.resets x), Value.int IntKind.i64 (Dv.time x)])] w (DevRs (rsX x) (.int .i64 (rsE x)) A c B d C e w) := by
  have HM := Lib.hid h
  clear h
  go_enter Try.func11, Try.ntmps11
  go_wp2_with fail
  obtain ⟨z, hz⟩ : ∃ z : Array Value, z = #[Value.int IntKind.i64 0, Value.int IntKind.i64 0, Value.slice none 0 0, Value.slice none 0 0,
          Value.int IntKind.i64 0, Value.bool false, Value.slice none 0 0, Value.int IntKind.i64 0,
          Value.int IntKind.i64 0, Value.int IntKind.i64 0, Value.int IntKind.i64 0, Value.int IntKind.u64 0,
          Value.int IntKind.i64 0, Value.int IntKind.i64 0, Value.int IntKind.i64 0] := ⟨_, rfl⟩
  rw [← hz]
  have hzs : z.size = 15 := by rw [hz]; rfl
  clear hz
  obtain ⟨w0, hw0⟩ : ∃ w0, w0 = (w.alloc (.cells (#[Value.int IntKind.i64 (Dv.I x), Value.int IntKind.i64 (Dv.S x), Value.slice A (Dv.nx x).length c, Value.slice B (Dv.out x).length d, Value.int IntKind.i64 (Dv.st x), Value.bool (Dv.rdy x), Value.slice C (Dv.step x).length e, Value.int IntKind.i64 (Dv.rs x), Value.int IntKind.i64 (Dv.lost x), Value.int IntKind.i64 (Dv.wrong x), Value.int IntKind.i64 (Dv.crash x), Value.int IntKind.u64 (Dv.seed x), Value.int IntKind.i64 (Dv.steps x), Value.int IntKind.i64 (Dv.resets x), Value.int IntKind.i64 (Dv.time x)]) 32)).alloc (.cells z 32) := ⟨_, rfl⟩
  have HX : Hid (RowD w0 w.heap.size 32 x A c B d C e) := Lib.hid (by rw [hw0]; unfold RowD; rw [heap_alloc_old _ _ (size_new _ _), heap_alloc_new])
  have HZ : Hid (w0.heap[w.heap.size + 1]? = some (.cells z 32)) := Lib.hid (by rw [hw0, ← size_alloc w (.cells (#[Value.int IntKind.i64 (Dv.I x), Value.int IntKind.i64 (Dv.S x), Value.slice A (Dv.nx x).length c, Value.slice B (Dv.out x).length d, Value.int IntKind.i64 (Dv.st x), Value.bool (Dv.rdy x), Value.slice C (Dv.step x).length e, Value.int IntKind.i64 (Dv.rs x), Value.int IntKind.i64 (Dv.lost x), Value.int IntKind.i64 (Dv.wrong x), Value.int IntKind.i64 (Dv.crash x), Value.int IntKind.u64 (Dv.seed x), Value.int IntKind.i64 (Dv.steps x), Value.int IntKind.i64 (Dv.resets x), Value.int IntKind.i64 (Dv.time x)]) 32), heap_alloc_new])
  have hbel : Below w.heap.size w w0 := by rw [hw0]; exact ((Below.refl _ _).alloc (Nat.le_refl _) _).alloc (by rw [size_alloc]; omega) _
  have hlt : w.heap.size + 1 < w0.heap.size := by rw [hw0, size_alloc, size_alloc]; omega
  rw [← hw0]
  clear hw0
  refine (validD_r x A B C c d e w0 (HM.out.keep hbel)).mono ?_
  rintro r w1 ⟨rfl, hb⟩
  replace HX := Lib.hid (HX.out.keep (Nat.lt_of_succ_lt hlt) hb)
  replace HZ := Lib.hid ((hb.block _ hlt).trans HZ.out)
  replace hbel := below_seq hbel hb
  replace hlt := Nat.lt_of_lt_of_le hlt hb.size
  clear hb
  by_cases hv : validD x = 0
  rotate_left
  · have hb := ne0 hv
    have HE : Hid (rsE x = validD x ∧ rsX x = x) := Lib.hid ⟨if_neg hv, if_neg hv⟩
    clear hv
    go_upto_region 2 with fail
    refine wp_region_any (by kernel_rfl) ?_
    change wpAny _ _ _ _ _ _ _ (World.drew _)
    generalize hwa : World.drew _ = wa
    replace HX := Lib.hid (show RowD wa w.heap.size 32 x A c B d C e by rw [← hwa]; exact HX.out)
    replace HZ := Lib.hid (show wa.heap[w.heap.size + 1]? = some (.cells z 32) by rw [← hwa]; exact HZ.out)
    replace hbel : Below w.heap.size w wa := by rw [← hwa]; exact hbel.drew
    replace hlt : w.heap.size + 1 < wa.heap.size := by rw [← hwa]; exact hlt
    clear hwa
    refine wpAny_ready (rs := [0, 1]) (by kernel_rfl) (by simp) ?_
    refine AllReady.cons rfl (fun K hK => ?_) (AllReady.cons rfl (fun K hK => ?_) AllReady.nil)
    · skip
      rw [if_pos (by rfl)]
      refine wp_load_row 32 _ rfl w.heap.size rfl 32 _ (0, 0) _ HX.out Try.underlying32 rfl (by kernel_rfl) ?_
      refine hK _ _ ?_
      clear hK K
      change wpAny _ _ _ _ _ _ (Act.put _ (some 7) _) _
      try simp only [Act.put, List.setIfInBounds_toArray, List.set_cons_zero, List.set_cons_succ]
      refine wpAny_ready (rs := [1]) (by kernel_rfl) (by simp) ?_
      refine AllReady.cons rfl (fun K hK => ?_) AllReady.nil
      rw [if_pos (by rfl)]
      refine wp_load_row 32 _ rfl w.heap.size rfl 32 _ (0, 0) _ HX.out Try.underlying32 rfl (by kernel_rfl) ?_
      refine hK _ _ ?_
      clear hK K
      change wpAny _ _ _ _ _ _ (Act.put _ (some 8) _) _
      try simp only [Act.put, List.setIfInBounds_toArray, List.set_cons_zero, List.set_cons_succ]
      refine wpAny_ready (rs := [2]) (by kernel_rfl) (by simp) ?_
      refine AllReady.cons rfl (fun K hK => ?_) AllReady.nil
      try go_simp
      refine (validD_r x A B C c d e _ (HM.out.keep hbel)).mono ?_
      rintro r wv ⟨rfl, hb⟩
      refine hK _ _ ?_
      clear hK K
      replace HX := Lib.hid (HX.out.keep (Nat.lt_of_succ_lt hlt) hb)
      replace HZ := Lib.hid ((hb.block _ hlt).trans HZ.out)
      replace hbel := below_seq hbel hb
      replace hlt := Nat.lt_of_lt_of_le hlt hb.size
      clear hb
      try clear wa
      rename World => wa
      try simp only [Act.put, List.setIfInBounds_toArray, List.set_cons_zero, List.set_cons_succ]
      refine wpAny_ready (rs := [3]) (by kernel_rfl) (by simp) ?_
      refine AllReady.cons rfl (fun K hK => ?_) AllReady.nil
      rw [if_pos (by rfl)]
      refine wp_store_row 32 _ _ rfl (w.heap.size + 1) _ rfl rfl 32 z HZ.out (by kernel_rfl) hzs (dc_one _ _ _ _ _ _ _) ?_
      refine hK _ _ ?_
      clear hK K
      change wpAny _ _ _ _ _ _ (Act.put _ none _) _
      try simp only [Act.put]
      refine take1 (i := 4) (d := some 3) (v := ?_) rfl rfl (by kernel_rfl) (by kernel_rfl) (by kernel_rfl) (fun _ _ _ h => h) (Or.inl ⟨by rfl, ?_⟩) ?_
      rotate_left
      · intro w; first | (go_simp; done) | (go_simp; with_reducible rfl)
      simp only [Act.put, List.setIfInBounds_toArray, List.set_cons_zero, List.set_cons_succ]
      refine wpAny_done (by kernel_rfl) ?_ _
      go_wp2_with fail
      have hbz := belowRow hbel (Nat.le_succ w.heap.size) (#[Value.int IntKind.i64 (Dv.I x), Value.int IntKind.i64 (Dv.S x), Value.slice A (Dv.nx x).length c, Value.slice B (Dv.out x).length d, Value.int IntKind.i64 (Dv.st x), Value.bool (Dv.rdy x), Value.slice C (Dv.step x).length e, Value.int IntKind.i64 (Dv.rs x), Value.int IntKind.i64 (Dv.lost x), Value.int IntKind.i64 (Dv.wrong x), Value.int IntKind.i64 (Dv.crash x), Value.int IntKind.u64 (Dv.seed x), Value.int IntKind.i64 (Dv.steps x), Value.int IntKind.i64 (Dv.resets x), Value.int IntKind.i64 (Dv.time x)])
      exact ret_d2 (RowD.put HZ.out x A c B d C e) rfl rfl rfl ⟨by rw [HE.out.1, HE.out.2]; rfl, hbz⟩
    · skip
      rw [if_pos (by rfl)]
      refine wp_load_row 32 _ rfl w.heap.size rfl 32 _ (0, 0) _ HX.out Try.underlying32 rfl (by kernel_rfl) ?_
      refine hK _ _ ?_
      clear hK K
      change wpAny _ _ _ _ _ _ (Act.put _ (some 8) _) _
      try simp only [Act.put, List.setIfInBounds_toArray, List.set_cons_zero, List.set_cons_succ]
      refine wpAny_ready (rs := [0, 2]) (by kernel_rfl) (by simp) ?_
      refine AllReady.cons rfl (fun K hK => ?_) (AllReady.cons rfl (fun K hK => ?_) AllReady.nil)
      · skip
        rw [if_pos (by rfl)]
        refine wp_load_row 32 _ rfl w.heap.size rfl 32 _ (0, 0) _ HX.out Try.underlying32 rfl (by kernel_rfl) ?_
        refine hK _ _ ?_
        clear hK K
        change wpAny _ _ _ _ _ _ (Act.put _ (some 7) _) _
        try simp only [Act.put, List.setIfInBounds_toArray, List.set_cons_zero, List.set_cons_succ]
        refine wpAny_ready (rs := [2]) (by kernel_rfl) (by simp) ?_
        refine AllReady.cons rfl (fun K hK => ?_) AllReady.nil
        try go_simp
        refine (validD_r x A B C c d e _ (HM.out.keep hbel)).mono ?_
        rintro r wv ⟨rfl, hb⟩
        refine hK _ _ ?_
        clear hK K
        replace HX := Lib.hid (HX.out.keep (Nat.lt_of_succ_lt hlt) hb)
        replace HZ := Lib.hid ((hb.block _ hlt).trans HZ.out)
        replace hbel := below_seq hbel hb
        replace hlt := Nat.lt_of_lt_of_le hlt hb.size
        clear hb
        try clear wa
        rename World => wa
        try simp only [Act.put, List.setIfInBounds_toArray, List.set_cons_zero, List.set_cons_succ]
        refine wpAny_ready (rs := [3]) (by kernel_rfl) (by simp) ?_
        refine AllReady.cons rfl (fun K hK => ?_) AllReady.nil
        rw [if_pos (by rfl)]
        refine wp_store_row 32 _ _ rfl (w.heap.size + 1) _ rfl rfl 32 z HZ.out (by kernel_rfl) hzs (dc_one _ _ _ _ _ _ _) ?_
        refine hK _ _ ?_
        clear hK K
        change wpAny _ _ _ _ _ _ (Act.put _ none _) _
        try simp only [Act.put]
        refine take1 (i := 4) (d := some 3) (v := ?_) rfl rfl (by kernel_rfl) (by kernel_rfl) (by kernel_rfl) (fun _ _ _ h => h) (Or.inl ⟨by rfl, ?_⟩) ?_
        rotate_left
        · intro w; first | (go_simp; done) | (go_simp; with_reducible rfl)
        simp only [Act.put, List.setIfInBounds_toArray, List.set_cons_zero, List.set_cons_succ]
        refine wpAny_done (by kernel_rfl) ?_ _
        go_wp2_with fail
        have hbz := belowRow hbel (Nat.le_succ w.heap.size) (#[Value.int IntKind.i64 (Dv.I x), Value.int IntKind.i64 (Dv.S x), Value.slice A (Dv.nx x).length c, Value.slice B (Dv.out x).length d, Value.int IntKind.i64 (Dv.st x), Value.bool (Dv.rdy x), Value.slice C (Dv.step x).length e, Value.int IntKind.i64 (Dv.rs x), Value.int IntKind.i64 (Dv.lost x), Value.int IntKind.i64 (Dv.wrong x), Value.int IntKind.i64 (Dv.crash x), Value.int IntKind.u64 (Dv.seed x), Value.int IntKind.i64 (Dv.steps x), Value.int IntKind.i64 (Dv.resets x), Value.int IntKind.i64 (Dv.time x)])
        exact ret_d2 (RowD.put HZ.out x A c B d C e) rfl rfl rfl ⟨by rw [HE.out.1, HE.out.2]; rfl, hbz⟩
      · skip
        try go_simp
        refine (validD_r x A B C c d e _ (HM.out.keep hbel)).mono ?_
        rintro r wv ⟨rfl, hb⟩
        refine hK _ _ ?_
        clear hK K
        replace HX := Lib.hid (HX.out.keep (Nat.lt_of_succ_lt hlt) hb)
        replace HZ := Lib.hid ((hb.block _ hlt).trans HZ.out)
        replace hbel := below_seq hbel hb
        replace hlt := Nat.lt_of_lt_of_le hlt hb.size
        clear hb
        try clear wa
        rename World => wa
        try simp only [Act.put, List.setIfInBounds_toArray, List.set_cons_zero, List.set_cons_succ]
        refine wpAny_ready (rs := [0]) (by kernel_rfl) (by simp) ?_
        refine AllReady.cons rfl (fun K hK => ?_) AllReady.nil
        rw [if_pos (by rfl)]
        refine wp_load_row 32 _ rfl w.heap.size rfl 32 _ (0, 0) _ HX.out Try.underlying32 rfl (by kernel_rfl) ?_
        refine hK _ _ ?_
        clear hK K
        change wpAny _ _ _ _ _ _ (Act.put _ (some 7) _) _
        try simp only [Act.put, List.setIfInBounds_toArray, List.set_cons_zero, List.set_cons_succ]
        refine wpAny_ready (rs := [3]) (by kernel_rfl) (by simp) ?_
        refine AllReady.cons rfl (fun K hK => ?_) AllReady.nil
        rw [if_pos (by rfl)]
        refine wp_store_row 32 _ _ rfl (w.heap.size + 1) _ rfl rfl 32 z HZ.out (by kernel_rfl) hzs (dc_one _ _ _ _ _ _ _) ?_
        refine hK _ _ ?_
        clear hK K
        change wpAny _ _ _ _ _ _ (Act.put _ none _) _
        try simp only [Act.put]
        refine take1 (i := 4) (d := some 3) (v := ?_) rfl rfl (by kernel_rfl) (by kernel_rfl) (by kernel_rfl) (fun _ _ _ h => h) (Or.inl ⟨by rfl, ?_⟩) ?_
        rotate_left
        · intro w; first | (go_simp; done) | (go_simp; with_reducible rfl)
        simp only [Act.put, List.setIfInBounds_toArray, List.set_cons_zero, List.set_cons_succ]
        refine wpAny_done (by kernel_rfl) ?_ _
        go_wp2_with fail
        have hbz := belowRow hbel (Nat.le_succ w.heap.size) (#[Value.int IntKind.i64 (Dv.I x), Value.int IntKind.i64 (Dv.S x), Value.slice A (Dv.nx x).length c, Value.slice B (Dv.out x).length d, Value.int IntKind.i64 (Dv.st x), Value.bool (Dv.rdy x), Value.slice C (Dv.step x).length e, Value.int IntKind.i64 (Dv.rs x), Value.int IntKind.i64 (Dv.lost x), Value.int IntKind.i64 (Dv.wrong x), Value.int IntKind.i64 (Dv.crash x), Value.int IntKind.u64 (Dv.seed x), Value.int IntKind.i64 (Dv.steps x), Value.int IntKind.i64 (Dv.resets x), Value.int IntKind.i64 (Dv.time x)])
        exact ret_d2 (RowD.put HZ.out x A c B d C e) rfl rfl rfl ⟨by rw [HE.out.1, HE.out.2]; rfl, hbz⟩
  have HOK := Lib.hid (okD_of hv)
  have HE : Hid (rsE x = resetE x ∧ rsX x = resetX x) := Lib.hid ⟨if_pos hv, if_pos hv⟩
  rw [hv]
  clear hv w0
  have b1 := HOK.out.resets0
  have b2 := HOK.out.resets1
  have b3 := HOK.out.time0
  have b4 := HOK.out.time1
  have b5 := HOK.out.rs0
  have b6 := HOK.out.rs1
  have c7 := HX.out.box.c7
  have c13 := HX.out.box.c13
  have c14 := HX.out.box.c14
  go_wp2_with fail
  refine (counter_any _ _).mono ?_
  rintro r w2 ⟨rfl, rfl⟩
  cases q1 : outB (x.resets + 1) 1125899906842624 with
  | true =>
    have HR : Hid (resetE x = 11 ∧ resetX x = x) := Lib.hid (by unfold resetE resetX; rw [cnt_nextR HOK.out, q1]; exact ⟨rfl, rfl⟩)
    clear q1
    go_upto_region 4 with fail
    go_wp2_with (first | (refine wpList_load_row rfl 32 _ rfl w.heap.size rfl 32 _ (0, 0) _ HX.out Try.underlying32 rfl (by kernel_rfl) ?_) | (refine wpList_store_row rfl 32 _ _ rfl (w.heap.size + 1) _ rfl rfl 32 z HZ.out (by kernel_rfl) hzs (dc_one _ _ _ _ _ _ _) ?_))
    have hbz := belowRow hbel (Nat.le_succ w.heap.size) (#[Value.int IntKind.i64 (Dv.I x), Value.int IntKind.i64 (Dv.S x), Value.slice A (Dv.nx x).length c, Value.slice B (Dv.out x).length d, Value.int IntKind.i64 (Dv.st x), Value.bool (Dv.rdy x), Value.slice C (Dv.step x).length e, Value.int IntKind.i64 (Dv.rs x), Value.int IntKind.i64 (Dv.lost x), Value.int IntKind.i64 (Dv.wrong x), Value.int IntKind.i64 (Dv.crash x), Value.int IntKind.u64 (Dv.seed x), Value.int IntKind.i64 (Dv.steps x), Value.int IntKind.i64 (Dv.resets x), Value.int IntKind.i64 (Dv.time x)])
    exact ret_d2 (RowD.put HZ.out x A c B d C e) rfl rfl rfl ⟨by rw [HE.out.1, HE.out.2, HR.out.1, HR.out.2]; rfl, hbz⟩
  | false =>
  have Q1 := Lib.hid q1
  clear q1
  go_wp2_with fail
  refine (counter_any _ _).mono ?_
  rintro r w2 ⟨rfl, rfl⟩
  cases q2 : outB (x.time + x.rs) 1125899906842624 with
  | true =>
    have HR : Hid (resetE x = 11 ∧ resetX x = x) := Lib.hid (by unfold resetE resetX; rw [cnt_nextR HOK.out, Q1.out, q2]; exact ⟨rfl, rfl⟩)
    clear q2
    go_upto_region 4 with fail
    go_wp2_with (first | (refine wpList_load_row rfl 32 _ rfl w.heap.size rfl 32 _ (0, 0) _ HX.out Try.underlying32 rfl (by kernel_rfl) ?_) | (refine wpList_store_row rfl 32 _ _ rfl (w.heap.size + 1) _ rfl rfl 32 z HZ.out (by kernel_rfl) hzs (dc_one _ _ _ _ _ _ _) ?_))
    have hbz := belowRow hbel (Nat.le_succ w.heap.size) (#[Value.int IntKind.i64 (Dv.I x), Value.int IntKind.i64 (Dv.S x), Value.slice A (Dv.nx x).length c, Value.slice B (Dv.out x).length d, Value.int IntKind.i64 (Dv.st x), Value.bool (Dv.rdy x), Value.slice C (Dv.step x).length e, Value.int IntKind.i64 (Dv.rs x), Value.int IntKind.i64 (Dv.lost x), Value.int IntKind.i64 (Dv.wrong x), Value.int IntKind.i64 (Dv.crash x), Value.int IntKind.u64 (Dv.seed x), Value.int IntKind.i64 (Dv.steps x), Value.int IntKind.i64 (Dv.resets x), Value.int IntKind.i64 (Dv.time x)])
    exact ret_d2 (RowD.put HZ.out x A c B d C e) rfl rfl rfl ⟨by rw [HE.out.1, HE.out.2, HR.out.1, HR.out.2]; rfl, hbz⟩
  | false =>
  have HR : Hid (resetE x = 0 ∧ resetX x = nextR x) := Lib.hid (by unfold resetE resetX; rw [cnt_nextR HOK.out, Q1.out, q2]; exact ⟨rfl, rfl⟩)
  clear q2
  have c1 := HX.out.box.c1
  have c4 := HX.out.box.c4
  have c5 := HX.out.box.c5
  have f4 := HX.out.fro 4
  have f5 := HX.out.fro 5
  have f13 := HX.out.fro 13
  have f14 := HX.out.fro 14
  go_upto_region 9 with fail
  generalize hw5 : World.setCell _ _ _ = w5
  have HX5 : Hid (RowD w5 w.heap.size 32 (nextR x) A c B d C e) := Lib.hid (by rw [← hw5]; exact (((HX.out.setSt x.S).setRdy true).setResets (x.resets + 1)).setT (x.time + x.rs))
  have HZ5 : Hid (w5.heap[w.heap.size + 1]? = some (.cells z 32)) := Lib.hid (by rw [← hw5]; exact z_oth (z_oth (z_oth (z_oth HZ.out (Nat.succ_ne_self _)) (Nat.succ_ne_self _)) (Nat.succ_ne_self _)) (Nat.succ_ne_self _))
  have hbel5 : Below w.heap.size w w5 := by rw [← hw5]; exact (((hbel.setCell (Nat.le_refl _) _).setCell (Nat.le_refl _) _).setCell (Nat.le_refl _) _).setCell (Nat.le_refl _) _
  clear hw5 c1 c4 c5 c7 c13 c14 f4 f5 f13 f14 HX HZ hbel
  go_wp2_with (first | (refine wpList_load_row rfl 32 _ rfl w.heap.size rfl 32 _ (0, 0) _ HX5.out Try.underlying32 rfl (by kernel_rfl) ?_) | (refine wpList_store_row rfl 32 _ _ rfl (w.heap.size + 1) _ rfl rfl 32 z HZ5.out (by kernel_rfl) hzs (dc_one _ _ _ _ _ _ _) ?_))
  have hbz := belowRow hbel5 (Nat.le_succ w.heap.size) (#[Value.int IntKind.i64 (Dv.I (nextR x)), Value.int IntKind.i64 (Dv.S (nextR x)), Value.slice A (Dv.nx (nextR x)).length c, Value.slice B (Dv.out (nextR x)).length d, Value.int IntKind.i64 (Dv.st (nextR x)), Value.bool (Dv.rdy (nextR x)), Value.slice C (Dv.step (nextR x)).length e, Value.int IntKind.i64 (Dv.rs (nextR x)), Value.int IntKind.i64 (Dv.lost (nextR x)), Value.int IntKind.i64 (Dv.wrong (nextR x)), Value.int IntKind.i64 (Dv.crash (nextR x)), Value.int IntKind.u64 (Dv.seed (nextR x)), Value.int IntKind.i64 (Dv.steps (nextR x)), Value.int IntKind.i64 (Dv.resets (nextR x)), Value.int IntKind.i64 (Dv.time (nextR x))])
  exact ret_d2 (RowD.put HZ5.out (nextR x) A c B d C e) rfl rfl rfl ⟨by rw [HE.out.1, HE.out.2, HR.out.1, HR.out.2]; rfl, hbz⟩
set_option maxRecDepth 100000 in
set_option maxHeartbeats 8000000 in
theorem Step_s (x : Dv) (a : Int) (A B C : Option Addr) (c d e : Nat) (w : World) (h : RdD w A B C x) (s0 : 0 ≤ x.seed) (s1 : x.seed < 18446744073709551616) :
    Calls Try.prog 14 #[(Value.agg #[Value.int IntKind.i64 (Dv.I x), Value.int IntKind.i64 (Dv.S x), Value.slice A (Dv.nx x).length c, Value.slice B (Dv.out x).length d, Value.int IntKind.i64 (Dv.st x), Value.bool (Dv.rdy x), Value.slice C (Dv.step x).length e, Value.int IntKind.i64 (Dv.rs x), Value.int IntKind.i64 (Dv.lost x), Value.int IntKind.i64 (Dv.wrong x), Value.int IntKind.i64 (Dv.crash x), Value.int IntKind.u64 (Dv.seed x), Value.int IntKind.i64 (Dv.steps x), Value.int IntKind.i64 (Dv.resets x), Value.int IntKind.i64 (Dv.time x)]), .int .i64 a] w (DevSs (spX x a) (.int .i64 (spO x a)) (.int .i64 (spE x a)) A c B d C e w) := by
  have HM := Lib.hid h
  clear h
  go_enter Try.func14, Try.ntmps14
  go_wp2_with fail
  obtain ⟨z, hz⟩ : ∃ z : Array Value, z = #[Value.int IntKind.i64 0, Value.int IntKind.i64 0, Value.slice none 0 0, Value.slice none 0 0,
          Value.int IntKind.i64 0, Value.bool false, Value.slice none 0 0, Value.int IntKind.i64 0,
          Value.int IntKind.i64 0, Value.int IntKind.i64 0, Value.int IntKind.i64 0, Value.int IntKind.u64 0,
          Value.int IntKind.i64 0, Value.int IntKind.i64 0, Value.int IntKind.i64 0] := ⟨_, rfl⟩
  rw [← hz]
  have hzs : z.size = 15 := by rw [hz]; rfl
  clear hz
  obtain ⟨w0, hw0⟩ : ∃ w0, w0 = (w.alloc (.cells (#[Value.int IntKind.i64 (Dv.I x), Value.int IntKind.i64 (Dv.S x), Value.slice A (Dv.nx x).length c, Value.slice B (Dv.out x).length d, Value.int IntKind.i64 (Dv.st x), Value.bool (Dv.rdy x), Value.slice C (Dv.step x).length e, Value.int IntKind.i64 (Dv.rs x), Value.int IntKind.i64 (Dv.lost x), Value.int IntKind.i64 (Dv.wrong x), Value.int IntKind.i64 (Dv.crash x), Value.int IntKind.u64 (Dv.seed x), Value.int IntKind.i64 (Dv.steps x), Value.int IntKind.i64 (Dv.resets x), Value.int IntKind.i64 (Dv.time x)]) 32)).alloc (.cells z 32) := ⟨_, rfl⟩
  have HX : Hid (RowD w0 w.heap.size 32 x A c B d C e) := Lib.hid (by rw [hw0]; unfold RowD; rw [heap_alloc_old _ _ (size_new _ _), heap_alloc_new])
  have HZ : Hid (w0.heap[w.heap.size + 1]? = some (.cells z 32)) := Lib.hid (by rw [hw0, ← size_alloc w (.cells (#[Value.int IntKind.i64 (Dv.I x), Value.int IntKind.i64 (Dv.S x), Value.slice A (Dv.nx x).length c, Value.slice B (Dv.out x).length d, Value.int IntKind.i64 (Dv.st x), Value.bool (Dv.rdy x), Value.slice C (Dv.step x).length e, Value.int IntKind.i64 (Dv.rs x), Value.int IntKind.i64 (Dv.lost x), Value.int IntKind.i64 (Dv.wrong x), Value.int IntKind.i64 (Dv.crash x), Value.int IntKind.u64 (Dv.seed x), Value.int IntKind.i64 (Dv.steps x), Value.int IntKind.i64 (Dv.resets x), Value.int IntKind.i64 (Dv.time x)]) 32), heap_alloc_new])
  have hbel : Below w.heap.size w w0 := by rw [hw0]; exact ((Below.refl _ _).alloc (Nat.le_refl _) _).alloc (by rw [size_alloc]; omega) _
  have hlt : w.heap.size + 1 < w0.heap.size := by rw [hw0, size_alloc, size_alloc]; omega
  rw [← hw0]
  clear hw0
  refine (validD_r x A B C c d e w0 (HM.out.keep hbel)).mono ?_
  rintro r w1 ⟨rfl, hb⟩
  replace HX := Lib.hid (HX.out.keep (Nat.lt_of_succ_lt hlt) hb)
  replace HZ := Lib.hid ((hb.block _ hlt).trans HZ.out)
  replace hbel := below_seq hbel hb
  replace hlt := Nat.lt_of_lt_of_le hlt hb.size
  clear hb
  by_cases hv : validD x = 0
  rotate_left
  · have hb := ne0 hv
    have HE : Hid (spE x a = validD x ∧ spX x a = x ∧ spO x a = 0) := Lib.hid ⟨if_neg hv, if_neg hv, if_neg hv⟩
    clear hv
    go_upto_region 2 with fail
    refine wp_region_any (by kernel_rfl) ?_
    change wpAny _ _ _ _ _ _ _ (World.drew _)
    generalize hwa : World.drew _ = wa
    replace HX := Lib.hid (show RowD wa w.heap.size 32 x A c B d C e by rw [← hwa]; exact HX.out)
    replace HZ := Lib.hid (show wa.heap[w.heap.size + 1]? = some (.cells z 32) by rw [← hwa]; exact HZ.out)
    replace hbel : Below w.heap.size w wa := by rw [← hwa]; exact hbel.drew
    replace hlt : w.heap.size + 1 < wa.heap.size := by rw [← hwa]; exact hlt
    clear hwa
    refine wpAny_ready (rs := [0, 1]) (by kernel_rfl) (by simp) ?_
    refine AllReady.cons rfl (fun K hK => ?_) (AllReady.cons rfl (fun K hK => ?_) AllReady.nil)
    · skip
      rw [if_pos (by rfl)]
      refine wp_load_row 32 _ rfl w.heap.size rfl 32 _ (0, 0) _ HX.out Try.underlying32 rfl (by kernel_rfl) ?_
      refine hK _ _ ?_
      clear hK K
      change wpAny _ _ _ _ _ _ (Act.put _ (some 16) _) _
      try simp only [Act.put, List.setIfInBounds_toArray, List.set_cons_zero, List.set_cons_succ]
      refine wpAny_ready (rs := [1]) (by kernel_rfl) (by simp) ?_
      refine AllReady.cons rfl (fun K hK => ?_) AllReady.nil
      rw [if_pos (by rfl)]
      refine wp_load_row 32 _ rfl w.heap.size rfl 32 _ (0, 0) _ HX.out Try.underlying32 rfl (by kernel_rfl) ?_
      refine hK _ _ ?_
      clear hK K
      change wpAny _ _ _ _ _ _ (Act.put _ (some 17) _) _
      try simp only [Act.put, List.setIfInBounds_toArray, List.set_cons_zero, List.set_cons_succ]
      refine wpAny_ready (rs := [2]) (by kernel_rfl) (by simp) ?_
      refine AllReady.cons rfl (fun K hK => ?_) AllReady.nil
      try go_simp
      refine (validD_r x A B C c d e _ (HM.out.keep hbel)).mono ?_
      rintro r wv ⟨rfl, hb⟩
      refine hK _ _ ?_
      clear hK K
      replace HX := Lib.hid (HX.out.keep (Nat.lt_of_succ_lt hlt) hb)
      replace HZ := Lib.hid ((hb.block _ hlt).trans HZ.out)
      replace hbel := below_seq hbel hb
      replace hlt := Nat.lt_of_lt_of_le hlt hb.size
      clear hb
      try clear wa
      rename World => wa
      try simp only [Act.put, List.setIfInBounds_toArray, List.set_cons_zero, List.set_cons_succ]
      refine wpAny_ready (rs := [3]) (by kernel_rfl) (by simp) ?_
      refine AllReady.cons rfl (fun K hK => ?_) AllReady.nil
      rw [if_pos (by rfl)]
      refine wp_store_row 32 _ _ rfl (w.heap.size + 1) _ rfl rfl 32 z HZ.out (by kernel_rfl) hzs (dc_one _ _ _ _ _ _ _) ?_
      refine hK _ _ ?_
      clear hK K
      change wpAny _ _ _ _ _ _ (Act.put _ none _) _
      try simp only [Act.put]
      refine take1 (i := 4) (d := some 5) (v := ?_) rfl rfl (by kernel_rfl) (by kernel_rfl) (by kernel_rfl) (fun _ _ _ h => h) (Or.inl ⟨by rfl, ?_⟩) ?_
      rotate_left
      · intro w; first | (go_simp; done) | (go_simp; with_reducible rfl)
      simp only [Act.put, List.setIfInBounds_toArray, List.set_cons_zero, List.set_cons_succ]
      refine take1 (i := 5) (d := some 6) (v := ?_) rfl rfl (by kernel_rfl) (by kernel_rfl) (by kernel_rfl) (fun _ _ _ h => h) (Or.inl ⟨by rfl, ?_⟩) ?_
      rotate_left
      · intro w; first | (go_simp; done) | (go_simp; with_reducible rfl)
      simp only [Act.put, List.setIfInBounds_toArray, List.set_cons_zero, List.set_cons_succ]
      refine wpAny_done (by kernel_rfl) ?_ _
      go_wp2_with fail
      have hbz := belowRow hbel (Nat.le_succ w.heap.size) (#[Value.int IntKind.i64 (Dv.I x), Value.int IntKind.i64 (Dv.S x), Value.slice A (Dv.nx x).length c, Value.slice B (Dv.out x).length d, Value.int IntKind.i64 (Dv.st x), Value.bool (Dv.rdy x), Value.slice C (Dv.step x).length e, Value.int IntKind.i64 (Dv.rs x), Value.int IntKind.i64 (Dv.lost x), Value.int IntKind.i64 (Dv.wrong x), Value.int IntKind.i64 (Dv.crash x), Value.int IntKind.u64 (Dv.seed x), Value.int IntKind.i64 (Dv.steps x), Value.int IntKind.i64 (Dv.resets x), Value.int IntKind.i64 (Dv.time x)])
      exact ret_d3 (RowD.put HZ.out x A c B d C e) rfl rfl rfl ⟨by rw [HE.out.1, HE.out.2.1, HE.out.2.2]; rfl, hbz⟩
    · skip
      rw [if_pos (by rfl)]
      refine wp_load_row 32 _ rfl w.heap.size rfl 32 _ (0, 0) _ HX.out Try.underlying32 rfl (by kernel_rfl) ?_
      refine hK _ _ ?_
      clear hK K
      change wpAny _ _ _ _ _ _ (Act.put _ (some 17) _) _
      try simp only [Act.put, List.setIfInBounds_toArray, List.set_cons_zero, List.set_cons_succ]
      refine wpAny_ready (rs := [0, 2]) (by kernel_rfl) (by simp) ?_
      refine AllReady.cons rfl (fun K hK => ?_) (AllReady.cons rfl (fun K hK => ?_) AllReady.nil)
      · skip
        rw [if_pos (by rfl)]
        refine wp_load_row 32 _ rfl w.heap.size rfl 32 _ (0, 0) _ HX.out Try.underlying32 rfl (by kernel_rfl) ?_
        refine hK _ _ ?_
        clear hK K
        change wpAny _ _ _ _ _ _ (Act.put _ (some 16) _) _
        try simp only [Act.put, List.setIfInBounds_toArray, List.set_cons_zero, List.set_cons_succ]
        refine wpAny_ready (rs := [2]) (by kernel_rfl) (by simp) ?_
        refine AllReady.cons rfl (fun K hK => ?_) AllReady.nil
        try go_simp
        refine (validD_r x A B C c d e _ (HM.out.keep hbel)).mono ?_
        rintro r wv ⟨rfl, hb⟩
        refine hK _ _ ?_
        clear hK K
        replace HX := Lib.hid (HX.out.keep (Nat.lt_of_succ_lt hlt) hb)
        replace HZ := Lib.hid ((hb.block _ hlt).trans HZ.out)
        replace hbel := below_seq hbel hb
        replace hlt := Nat.lt_of_lt_of_le hlt hb.size
        clear hb
        try clear wa
        rename World => wa
        try simp only [Act.put, List.setIfInBounds_toArray, List.set_cons_zero, List.set_cons_succ]
        refine wpAny_ready (rs := [3]) (by kernel_rfl) (by simp) ?_
        refine AllReady.cons rfl (fun K hK => ?_) AllReady.nil
        rw [if_pos (by rfl)]
        refine wp_store_row 32 _ _ rfl (w.heap.size + 1) _ rfl rfl 32 z HZ.out (by kernel_rfl) hzs (dc_one _ _ _ _ _ _ _) ?_
        refine hK _ _ ?_
        clear hK K
        change wpAny _ _ _ _ _ _ (Act.put _ none _) _
        try simp only [Act.put]
        refine take1 (i := 4) (d := some 5) (v := ?_) rfl rfl (by kernel_rfl) (by kernel_rfl) (by kernel_rfl) (fun _ _ _ h => h) (Or.inl ⟨by rfl, ?_⟩) ?_
        rotate_left
        · intro w; first | (go_simp; done) | (go_simp; with_reducible rfl)
        simp only [Act.put, List.setIfInBounds_toArray, List.set_cons_zero, List.set_cons_succ]
        refine take1 (i := 5) (d := some 6) (v := ?_) rfl rfl (by kernel_rfl) (by kernel_rfl) (by kernel_rfl) (fun _ _ _ h => h) (Or.inl ⟨by rfl, ?_⟩) ?_
        rotate_left
        · intro w; first | (go_simp; done) | (go_simp; with_reducible rfl)
        simp only [Act.put, List.setIfInBounds_toArray, List.set_cons_zero, List.set_cons_succ]
        refine wpAny_done (by kernel_rfl) ?_ _
        go_wp2_with fail
        have hbz := belowRow hbel (Nat.le_succ w.heap.size) (#[Value.int IntKind.i64 (Dv.I x), Value.int IntKind.i64 (Dv.S x), Value.slice A (Dv.nx x).length c, Value.slice B (Dv.out x).length d, Value.int IntKind.i64 (Dv.st x), Value.bool (Dv.rdy x), Value.slice C (Dv.step x).length e, Value.int IntKind.i64 (Dv.rs x), Value.int IntKind.i64 (Dv.lost x), Value.int IntKind.i64 (Dv.wrong x), Value.int IntKind.i64 (Dv.crash x), Value.int IntKind.u64 (Dv.seed x), Value.int IntKind.i64 (Dv.steps x), Value.int IntKind.i64 (Dv.resets x), Value.int IntKind.i64 (Dv.time x)])
        exact ret_d3 (RowD.put HZ.out x A c B d C e) rfl rfl rfl ⟨by rw [HE.out.1, HE.out.2.1, HE.out.2.2]; rfl, hbz⟩
      · skip
        try go_simp
        refine (validD_r x A B C c d e _ (HM.out.keep hbel)).mono ?_
        rintro r wv ⟨rfl, hb⟩
        refine hK _ _ ?_
        clear hK K
        replace HX := Lib.hid (HX.out.keep (Nat.lt_of_succ_lt hlt) hb)
        replace HZ := Lib.hid ((hb.block _ hlt).trans HZ.out)
        replace hbel := below_seq hbel hb
        replace hlt := Nat.lt_of_lt_of_le hlt hb.size
        clear hb
        try clear wa
        rename World => wa
        try simp only [Act.put, List.setIfInBounds_toArray, List.set_cons_zero, List.set_cons_succ]
        refine wpAny_ready (rs := [0]) (by kernel_rfl) (by simp) ?_
        refine AllReady.cons rfl (fun K hK => ?_) AllReady.nil
        rw [if_pos (by rfl)]
        refine wp_load_row 32 _ rfl w.heap.size rfl 32 _ (0, 0) _ HX.out Try.underlying32 rfl (by kernel_rfl) ?_
        refine hK _ _ ?_
        clear hK K
        change wpAny _ _ _ _ _ _ (Act.put _ (some 16) _) _
        try simp only [Act.put, List.setIfInBounds_toArray, List.set_cons_zero, List.set_cons_succ]
        refine wpAny_ready (rs := [3]) (by kernel_rfl) (by simp) ?_
        refine AllReady.cons rfl (fun K hK => ?_) AllReady.nil
        rw [if_pos (by rfl)]
        refine wp_store_row 32 _ _ rfl (w.heap.size + 1) _ rfl rfl 32 z HZ.out (by kernel_rfl) hzs (dc_one _ _ _ _ _ _ _) ?_
        refine hK _ _ ?_
        clear hK K
        change wpAny _ _ _ _ _ _ (Act.put _ none _) _
        try simp only [Act.put]
        refine take1 (i := 4) (d := some 5) (v := ?_) rfl rfl (by kernel_rfl) (by kernel_rfl) (by kernel_rfl) (fun _ _ _ h => h) (Or.inl ⟨by rfl, ?_⟩) ?_
        rotate_left
        · intro w; first | (go_simp; done) | (go_simp; with_reducible rfl)
        simp only [Act.put, List.setIfInBounds_toArray, List.set_cons_zero, List.set_cons_succ]
        refine take1 (i := 5) (d := some 6) (v := ?_) rfl rfl (by kernel_rfl) (by kernel_rfl) (by kernel_rfl) (fun _ _ _ h => h) (Or.inl ⟨by rfl, ?_⟩) ?_
        rotate_left
        · intro w; first | (go_simp; done) | (go_simp; with_reducible rfl)
        simp only [Act.put, List.setIfInBounds_toArray, List.set_cons_zero, List.set_cons_succ]
        refine wpAny_done (by kernel_rfl) ?_ _
        go_wp2_with fail
        have hbz := belowRow hbel (Nat.le_succ w.heap.size) (#[Value.int IntKind.i64 (Dv.I x), Value.int IntKind.i64 (Dv.S x), Value.slice A (Dv.nx x).length c, Value.slice B (Dv.out x).length d, Value.int IntKind.i64 (Dv.st x), Value.bool (Dv.rdy x), Value.slice C (Dv.step x).length e, Value.int IntKind.i64 (Dv.rs x), Value.int IntKind.i64 (Dv.lost x), Value.int IntKind.i64 (Dv.wrong x), Value.int IntKind.i64 (Dv.crash x), Value.int IntKind.u64 (Dv.seed x), Value.int IntKind.i64 (Dv.steps x), Value.int IntKind.i64 (Dv.resets x), Value.int IntKind.i64 (Dv.time x)])
        exact ret_d3 (RowD.put HZ.out x A c B d C e) rfl rfl rfl ⟨by rw [HE.out.1, HE.out.2.1, HE.out.2.2]; rfl, hbz⟩
  have HOK := Lib.hid (okD_of hv)
  have HV := Lib.hid hv
  rw [hv]
  clear hv w0
  have hc5 := HX.out.box.c5
  by_cases hr : x.rdy = false
  · rw [hr] at hc5
    have HR0 := Lib.hid hr
    clear hr
    have HE := Lib.hid (sp_1 HV.out (step_1 (a := a) HR0.out) (by decide))
    go_upto_region 4 with fail
    go_wp2_with (first | (refine wpList_load_row rfl 32 _ rfl w.heap.size rfl 32 _ (0, 0) _ HX.out Try.underlying32 rfl (by kernel_rfl) ?_) | (refine wpList_store_row rfl 32 _ _ rfl (w.heap.size + 1) _ rfl rfl 32 z HZ.out (by kernel_rfl) hzs (dc_one _ _ _ _ _ _ _) ?_))
    have hbz := belowRow hbel (Nat.le_succ w.heap.size) (#[Value.int IntKind.i64 (Dv.I x), Value.int IntKind.i64 (Dv.S x), Value.slice A (Dv.nx x).length c, Value.slice B (Dv.out x).length d, Value.int IntKind.i64 (Dv.st x), Value.bool (Dv.rdy x), Value.slice C (Dv.step x).length e, Value.int IntKind.i64 (Dv.rs x), Value.int IntKind.i64 (Dv.lost x), Value.int IntKind.i64 (Dv.wrong x), Value.int IntKind.i64 (Dv.crash x), Value.int IntKind.u64 (Dv.seed x), Value.int IntKind.i64 (Dv.steps x), Value.int IntKind.i64 (Dv.resets x), Value.int IntKind.i64 (Dv.time x)])
    exact ret_d3 (RowD.put HZ.out x A c B d C e) rfl rfl rfl ⟨by rw [HE.out.1, HE.out.2.1, HE.out.2.2]; rfl, hbz⟩
  replace hr : x.rdy = true := by simpa using hr
  rw [hr] at hc5
  have HR := Lib.hid hr
  clear hr
  have hc0 := HX.out.box.c0
  by_cases ha : a < 0
  · have HO : Hid (outB a (x.I - 1) = true) := Lib.hid (outB_yes (.inl ha))
    have HE := Lib.hid (sp_1 HV.out (step_2 HR.out HO.out) (by decide))
    go_upto_region 6 with fail
    go_wp2_with (first | (refine wpList_load_row rfl 32 _ rfl w.heap.size rfl 32 _ (0, 0) _ HX.out Try.underlying32 rfl (by kernel_rfl) ?_) | (refine wpList_store_row rfl 32 _ _ rfl (w.heap.size + 1) _ rfl rfl 32 z HZ.out (by kernel_rfl) hzs (dc_one _ _ _ _ _ _ _) ?_))
    have hbz := belowRow hbel (Nat.le_succ w.heap.size) (#[Value.int IntKind.i64 (Dv.I x), Value.int IntKind.i64 (Dv.S x), Value.slice A (Dv.nx x).length c, Value.slice B (Dv.out x).length d, Value.int IntKind.i64 (Dv.st x), Value.bool (Dv.rdy x), Value.slice C (Dv.step x).length e, Value.int IntKind.i64 (Dv.rs x), Value.int IntKind.i64 (Dv.lost x), Value.int IntKind.i64 (Dv.wrong x), Value.int IntKind.i64 (Dv.crash x), Value.int IntKind.u64 (Dv.seed x), Value.int IntKind.i64 (Dv.steps x), Value.int IntKind.i64 (Dv.resets x), Value.int IntKind.i64 (Dv.time x)])
    exact ret_d3 (RowD.put HZ.out x A c B d C e) rfl rfl rfl ⟨by rw [HE.out.1, HE.out.2.1, HE.out.2.2]; rfl, hbz⟩
  by_cases ha2 : x.I ≤ a
  · have HO : Hid (outB a (x.I - 1) = true) := Lib.hid (outB_yes (.inr (by omega)))
    have HE := Lib.hid (sp_1 HV.out (step_2 HR.out HO.out) (by decide))
    go_upto_region 6 with fail
    go_wp2_with (first | (refine wpList_load_row rfl 32 _ rfl w.heap.size rfl 32 _ (0, 0) _ HX.out Try.underlying32 rfl (by kernel_rfl) ?_) | (refine wpList_store_row rfl 32 _ _ rfl (w.heap.size + 1) _ rfl rfl 32 z HZ.out (by kernel_rfl) hzs (dc_one _ _ _ _ _ _ _) ?_))
    have hbz := belowRow hbel (Nat.le_succ w.heap.size) (#[Value.int IntKind.i64 (Dv.I x), Value.int IntKind.i64 (Dv.S x), Value.slice A (Dv.nx x).length c, Value.slice B (Dv.out x).length d, Value.int IntKind.i64 (Dv.st x), Value.bool (Dv.rdy x), Value.slice C (Dv.step x).length e, Value.int IntKind.i64 (Dv.rs x), Value.int IntKind.i64 (Dv.lost x), Value.int IntKind.i64 (Dv.wrong x), Value.int IntKind.i64 (Dv.crash x), Value.int IntKind.u64 (Dv.seed x), Value.int IntKind.i64 (Dv.steps x), Value.int IntKind.i64 (Dv.resets x), Value.int IntKind.i64 (Dv.time x)])
    exact ret_d3 (RowD.put HZ.out x A c B d C e) rfl rfl rfl ⟨by rw [HE.out.1, HE.out.2.1, HE.out.2.2]; rfl, hbz⟩
  obtain ⟨n, rfl⟩ : ∃ n : Nat, a = (n : Int) := ⟨a.toNat, by omega⟩
  have HO : Hid (outB (n : Int) (x.I - 1) = false) := Lib.hid (outB_no (by omega) (by omega))
  obtain ⟨s, hst, hs1, hs2, hn1, hn2, hn3, t0, t1, t2, t3, t4, t5⟩ := okst HOK.out (n := n) (by omega)
  have hst' : Hid (x.st.toNat = s) := Lib.hid (by rw [hst]; rfl)
  have HST := Lib.hid hst
  clear hst
  obtain ⟨adC, cst, rfl, hcst, hcC⟩ := HM.out.step.at_ (i := n) hn3
  obtain ⟨adA, A1, c1, row, rfl, hrow, hcA, hrA⟩ := HM.out.nx.at_ (i := s) hs1
  obtain ⟨adB, B1, d1, orow, rfl, horow, hcB, hrB⟩ := HM.out.out.at_ (i := s) hs2
  rw [hrow] at hn1
  rw [horow] at hn2
  rw [hcst] at t4 t5
  obtain ⟨adA1, tar, rfl, htar, hcA1⟩ := hrA.at_ (i := n) hn1
  obtain ⟨adB1, o, rfl, hout, hcB1⟩ := hrB.at_ (i := n) hn2
  have HT : Hid (tarD x n = tar) := Lib.hid (by unfold tarD; rw [hst'.out, Int.toNat_natCast, hrow, htar])
  have HOut : Hid (outD x n = o) := Lib.hid (by unfold outD; rw [hst'.out, Int.toNat_natCast, horow, hout])
  have HCo : Hid (costD1 x n = cst) := Lib.hid (by unfold costD1; rw [Int.toNat_natCast, hcst])
  have hob : Hid (0 ≤ o ∧ o ≤ 1048576) := Lib.hid (by
    have h9 := HOK.out.m.cell s n hs1 (by omega)
    rw [horow, hout] at h9
    exact ⟨h9.2.2.1, h9.2.2.2⟩)
  have HcA := Lib.hid hcA
  have HcB := Lib.hid hcB
  have HcC := Lib.hid hcC
  have HcA1 := Lib.hid hcA1
  have HcB1 := Lib.hid hcB1
  have hrl := hrA.1
  have hol := hrB.1
  have hxl := HM.out.nx.1
  have hul := HM.out.out.1
  have hsl := HM.out.step.1
  clear hcA hcB hcC hcA1 hcB1 hrow horow hcst htar hout hrA hrB
  go_upto_region 7 with fail
  clear hc0 hc5
  have hc6 := HX.out.box.c6
  have hc12 := HX.out.box.c12
  have hc14 := HX.out.box.c14
  have hv := keep_cell hbel HcC.out
  cases q1 : outB (x.steps + 1) 1125899906842624 with
  | true =>
    have HQ1 := Lib.hid (fun m => cnt_q q1 w1 m)
    have HC : Hid (cntB (nextS x n) = false) := Lib.hid (by rw [cnt_nextS HOK.out, q1]; rfl)
    clear q1
    go_quiet ((go_at_call 32; exact HQ1.out _))
    clear hc6 hc12 hc14 hv HQ1
    generalize hw5 : World.drewN _ _ = w5
    replace HX := Lib.hid (show RowD w5 w.heap.size 32 x (some adA) c (some adB) d (some adC) e by rw [← hw5]; exact HX.out)
    replace HZ := Lib.hid (show w5.heap[w.heap.size + 1]? = some (.cells z 32) by rw [← hw5]; exact HZ.out)
    replace hbel : Below w.heap.size w w5 := by rw [← hw5]; exact below_drewN' hbel _
    clear hw5
    have HE := Lib.hid (sp_1 HV.out (step_3 HR.out HO.out HC.out) (by decide))
    go_upto_region 8 with fail
    go_wp2_with (first | (refine wpList_load_row rfl 32 _ rfl w.heap.size rfl 32 _ (0, 0) _ HX.out Try.underlying32 rfl (by kernel_rfl) ?_) | (refine wpList_store_row rfl 32 _ _ rfl (w.heap.size + 1) _ rfl rfl 32 z HZ.out (by kernel_rfl) hzs (dc_one _ _ _ _ _ _ _) ?_))
    have hbz := belowRow hbel (Nat.le_succ w.heap.size) (#[Value.int IntKind.i64 (Dv.I x), Value.int IntKind.i64 (Dv.S x), Value.slice (some adA) (Dv.nx x).length c, Value.slice (some adB) (Dv.out x).length d, Value.int IntKind.i64 (Dv.st x), Value.bool (Dv.rdy x), Value.slice (some adC) (Dv.step x).length e, Value.int IntKind.i64 (Dv.rs x), Value.int IntKind.i64 (Dv.lost x), Value.int IntKind.i64 (Dv.wrong x), Value.int IntKind.i64 (Dv.crash x), Value.int IntKind.u64 (Dv.seed x), Value.int IntKind.i64 (Dv.steps x), Value.int IntKind.i64 (Dv.resets x), Value.int IntKind.i64 (Dv.time x)])
    exact ret_d3 (RowD.put HZ.out x (some adA) c (some adB) d (some adC) e) rfl rfl rfl ⟨by rw [HE.out.1, HE.out.2.1, HE.out.2.2]; rfl, hbz⟩
  | false =>
  have HQ1 := Lib.hid (fun m => cnt_q q1 w1 m)
  cases q2 : outB (x.time + cst) 1125899906842624 with
  | true =>
    have HQ2 := Lib.hid (fun m => cnt_q q2 w1 m)
    have HC : Hid (cntB (nextS x n) = false) := Lib.hid (by rw [cnt_nextS HOK.out, q1, HCo.out, q2]; rfl)
    clear q1 q2
    go_quiet ((go_at_call 32; first | exact HQ1.out _ | exact HQ2.out _))
    clear hc6 hc12 hc14 hv HQ1 HQ2
    generalize hw5 : World.drewN _ _ = w5
    replace HX := Lib.hid (show RowD w5 w.heap.size 32 x (some adA) c (some adB) d (some adC) e by rw [← hw5]; exact HX.out)
    replace HZ := Lib.hid (show w5.heap[w.heap.size + 1]? = some (.cells z 32) by rw [← hw5]; exact HZ.out)
    replace hbel : Below w.heap.size w w5 := by rw [← hw5]; exact below_drewN' hbel _
    clear hw5
    have HE := Lib.hid (sp_1 HV.out (step_3 HR.out HO.out HC.out) (by decide))
    go_upto_region 8 with fail
    go_wp2_with (first | (refine wpList_load_row rfl 32 _ rfl w.heap.size rfl 32 _ (0, 0) _ HX.out Try.underlying32 rfl (by kernel_rfl) ?_) | (refine wpList_store_row rfl 32 _ _ rfl (w.heap.size + 1) _ rfl rfl 32 z HZ.out (by kernel_rfl) hzs (dc_one _ _ _ _ _ _ _) ?_))
    have hbz := belowRow hbel (Nat.le_succ w.heap.size) (#[Value.int IntKind.i64 (Dv.I x), Value.int IntKind.i64 (Dv.S x), Value.slice (some adA) (Dv.nx x).length c, Value.slice (some adB) (Dv.out x).length d, Value.int IntKind.i64 (Dv.st x), Value.bool (Dv.rdy x), Value.slice (some adC) (Dv.step x).length e, Value.int IntKind.i64 (Dv.rs x), Value.int IntKind.i64 (Dv.lost x), Value.int IntKind.i64 (Dv.wrong x), Value.int IntKind.i64 (Dv.crash x), Value.int IntKind.u64 (Dv.seed x), Value.int IntKind.i64 (Dv.steps x), Value.int IntKind.i64 (Dv.resets x), Value.int IntKind.i64 (Dv.time x)])
    exact ret_d3 (RowD.put HZ.out x (some adA) c (some adB) d (some adC) e) rfl rfl rfl ⟨by rw [HE.out.1, HE.out.2.1, HE.out.2.2]; rfl, hbz⟩
  | false =>
  have HQ2 := Lib.hid (fun m => cnt_q q2 w1 m)
  have HE := Lib.hid (sp_2 HV.out (step_4 HR.out HO.out (by rw [cnt_nextS HOK.out, q1, HCo.out, q2]; rfl)))
  clear q1 q2
  go_quiet ((go_at_call 32; first | exact HQ1.out _ | exact HQ2.out _))
  clear hc6 hc12 hc14 hv HQ1 HQ2
  generalize hw5 : World.drewN _ _ = w5
  replace HX := Lib.hid (show RowD w5 w.heap.size 32 x (some adA) c (some adB) d (some adC) e by rw [← hw5]; exact HX.out)
  replace HZ := Lib.hid (show w5.heap[w.heap.size + 1]? = some (.cells z 32) by rw [← hw5]; exact HZ.out)
  replace hbel : Below w.heap.size w w5 := by rw [← hw5]; exact below_drewN' hbel _
  replace hlt : w.heap.size + 1 < w5.heap.size := by rw [← hw5]; exact hlt
  clear hw5 w1
  have hc3 := HX.out.box.c3
  have hc4 := HX.out.box.c4
  rw [HST.out] at hc4
  have hv1 := keep_cell hbel HcB.out
  have hv2 := keep_cell hbel HcB1.out
  go_upto_region 10 with fail
  clear hc3 hc4 hv1 hv2
  have hc11 := HX.out.box.c11
  go_wp2_with fail
  refine (below10r x w5 s0 s1).mono ?_
  rintro r w4 ⟨rfl, rfl⟩
  clear hc11
  have hc2 := HX.out.box.c2
  have hc4 := HX.out.box.c4
  rw [HST.out] at hc4
  have hf4 := HX.out.fro 4
  have hv1 := keep_cell hbel HcA.out
  have hv2 := keep_cell hbel HcA1.out
  go_upto_region 12 with fail
  clear hc2 hc4 hf4 hv1 hv2
  generalize hw6 : World.setCell _ _ _ = w6
  replace HX : Hid (RowD w6 w.heap.size 32 { x with st := tarD x n } (some adA) c (some adB) d (some adC) e) := Lib.hid (by rw [← hw6, HT.out]; exact HX.out.setSt _)
  replace HZ : Hid (w6.heap[w.heap.size + 1]? = some (.cells z 32)) := Lib.hid (by rw [← hw6]; exact z_oth HZ.out (Nat.succ_ne_self _))
  replace hbel : Below w.heap.size w w6 := by rw [← hw6]; exact hbel.setCell (Nat.le_refl _) _
  replace hlt : w.heap.size + 1 < w6.heap.size := by rw [← hw6, size_setCell]; exact hlt
  clear hw6
  have hc12 : w6.cell? ⟨w.heap.size, 12, none⟩ = some (.int .i64 x.steps) := HX.out.box.c12
  have hf12 := HX.out.fro 12
  go_upto_region 13 with fail
  clear hc12 hf12
  generalize hw7 : World.setCell _ _ _ = w7
  replace HX : Hid (RowD w7 w.heap.size 32 { x with st := tarD x n, steps := x.steps + 1 } (some adA) c (some adB) d (some adC) e) := Lib.hid (by rw [← hw7]; exact HX.out.setSteps _)
  replace HZ : Hid (w7.heap[w.heap.size + 1]? = some (.cells z 32)) := Lib.hid (by rw [← hw7]; exact z_oth HZ.out (Nat.succ_ne_self _))
  replace hbel : Below w.heap.size w w7 := by rw [← hw7]; exact hbel.setCell (Nat.le_refl _) _
  replace hlt : w.heap.size + 1 < w7.heap.size := by rw [← hw7, size_setCell]; exact hlt
  clear hw7
  have hc14 : w7.cell? ⟨w.heap.size, 14, none⟩ = some (.int .i64 x.time) := HX.out.box.c14
  have hc6 : w7.cell? ⟨w.heap.size, 6, none⟩ = some (.slice (some adC) x.step.length e) := HX.out.box.c6
  have hf14 := HX.out.fro 14
  have hv := keep_cell hbel HcC.out
  go_still_tail 10, (by kernel_rfl)
  go_upto_region 14 with fail
  clear hc14 hc6 hf14 hv
  generalize hw8 : World.drew _ = w8
  replace HX : Hid (RowD w8 w.heap.size 32 { x with st := tarD x n, steps := x.steps + 1, time := x.time + costD1 x n } (some adA) c (some adB) d (some adC) e) := Lib.hid (by rw [← hw8, HCo.out]; exact (HX.out.setT _).drew)
  replace HZ : Hid (w8.heap[w.heap.size + 1]? = some (.cells z 32)) := Lib.hid (by rw [← hw8]; exact z_oth HZ.out (Nat.succ_ne_self _))
  replace hbel : Below w.heap.size w w8 := by rw [← hw8]; exact (hbel.setCell (Nat.le_refl _) _).drew
  replace hlt : w.heap.size + 1 < w8.heap.size := by rw [← hw8]; show _ < (w7.setCell _ _).heap.size; rw [size_setCell]; exact hlt
  clear hw8 w6
  have hc11 : w8.cell? ⟨w.heap.size, 11, none⟩ = some (.int .u64 x.seed) := HX.out.box.c11
  have hf11 := HX.out.fro 11
  go_upto_region 15 with fail
  clear hc11 hf11
  generalize hw9 : World.setCell _ _ _ = w9
  have h9 : RowD w9 w.heap.size 32 (movedR x n x.rdy) (some adA) c (some adB) d (some adC) e := by rw [← hw9]; exact HX.out.setSeed _
  rw [HR.out] at h9
  replace HX := Lib.hid h9
  clear h9
  replace HZ : Hid (w9.heap[w.heap.size + 1]? = some (.cells z 32)) := Lib.hid (by rw [← hw9]; exact z_oth HZ.out (Nat.succ_ne_self _))
  replace hbel : Below w.heap.size w w9 := by rw [← hw9]; exact hbel.setCell (Nat.le_refl _) _
  replace hlt : w.heap.size + 1 < w9.heap.size := by rw [← hw9, size_setCell]; exact hlt
  clear hw9 w8
  have hc8 : w9.cell? ⟨w.heap.size, 8, none⟩ = some (.int .i64 x.lost) := HX.out.box.c8
  have hc9 : w9.cell? ⟨w.heap.size, 9, none⟩ = some (.int .i64 x.wrong) := HX.out.box.c9
  have hc10 : w9.cell? ⟨w.heap.size, 10, none⟩ = some (.int .i64 x.crash) := HX.out.box.c10
  go_upto_region 16 with fail
  clear hc8 hc9 hc10
  generalize hw8 : World.alloc _ _ = w8
  have hal : Below w9.heap.size w9 w8 := by rw [← hw8]; exact (Below.refl _ _).alloc (Nat.le_refl _) _
  replace HX := Lib.hid (HX.out.keep (Nat.lt_of_succ_lt hlt) hal)
  replace HZ := Lib.hid ((hal.block _ hlt).trans HZ.out)
  replace hbel := below_seq hbel hal
  have HF : BoxF w8 w9.heap.size x := by rw [← hw8]; exact BoxF.new w9 x 29
  clear hw8 hal
  obtain ⟨f0, f1, f2⟩ := HF
  have L0 := HOK.out.lost0
  have L1 := HOK.out.lost1
  have W0 := HOK.out.wrong0
  have W1 := HOK.out.wrong1
  have C0 := HOK.out.crash0
  have C1 := HOK.out.crash1
  generalize hv : drawD x = v
  have HV2 := Lib.hid hv
  clear hv t0 t1 t2 t3 t4 t5
  by_cases v1 : v < x.lost
  · clear hob
    have HA : Hid (spO x n = -1 ∧ spX x n = movedR x n true) := Lib.hid ⟨by rw [HE.out.2.2, HOut.out, HV2.out]; exact ans_1 v1, by rw [HE.out.2.1]; exact moved_r (by rw [HV2.out]; exact ((rdy_1 (by omega)).trans HR.out))⟩
    go_upto_region 24 with fail
    go_wp2_with (first | (refine wpList_load_row rfl 32 _ rfl w.heap.size rfl 32 _ (0, 0) _ HX.out Try.underlying32 rfl (by kernel_rfl) ?_) | (refine wpList_store_row rfl 32 _ _ rfl (w.heap.size + 1) _ rfl rfl 32 z HZ.out (by kernel_rfl) hzs (dc_one (movedR x n true) _ _ _ _ _ _) ?_))
    have hbz := belowRow hbel (Nat.le_succ w.heap.size) (#[Value.int IntKind.i64 (Dv.I (movedR x n true)), Value.int IntKind.i64 (Dv.S (movedR x n true)), Value.slice (some adA) (Dv.nx (movedR x n true)).length c, Value.slice (some adB) (Dv.out (movedR x n true)).length d, Value.int IntKind.i64 (Dv.st (movedR x n true)), Value.bool (Dv.rdy (movedR x n true)), Value.slice (some adC) (Dv.step (movedR x n true)).length e, Value.int IntKind.i64 (Dv.rs (movedR x n true)), Value.int IntKind.i64 (Dv.lost (movedR x n true)), Value.int IntKind.i64 (Dv.wrong (movedR x n true)), Value.int IntKind.i64 (Dv.crash (movedR x n true)), Value.int IntKind.u64 (Dv.seed (movedR x n true)), Value.int IntKind.i64 (Dv.steps (movedR x n true)), Value.int IntKind.i64 (Dv.resets (movedR x n true)), Value.int IntKind.i64 (Dv.time (movedR x n true))])
    exact ret_d3 (RowD.put HZ.out (movedR x n true) (some adA) c (some adB) d (some adC) e) rfl rfl rfl ⟨by rw [HA.out.1, HA.out.2, HE.out.1]; rfl, hbz⟩
  by_cases v2 : v < x.lost + x.wrong
  · by_cases v3 : o = 1048576
    · skip
      have HA : Hid (spO x n = o - 1 ∧ spX x n = movedR x n true) := Lib.hid ⟨by rw [HE.out.2.2, HOut.out, HV2.out]; exact ans_2 v1 v2 v3, by rw [HE.out.2.1]; exact moved_r (by rw [HV2.out]; exact ((rdy_1 v2).trans HR.out))⟩
      have hob1 := hob.out.1
      subst v3
      go_upto_region 24 with fail
      go_wp2_with (first | (refine wpList_load_row rfl 32 _ rfl w.heap.size rfl 32 _ (0, 0) _ HX.out Try.underlying32 rfl (by kernel_rfl) ?_) | (refine wpList_store_row rfl 32 _ _ rfl (w.heap.size + 1) _ rfl rfl 32 z HZ.out (by kernel_rfl) hzs (dc_one (movedR x n true) _ _ _ _ _ _) ?_))
      have hbz := belowRow hbel (Nat.le_succ w.heap.size) (#[Value.int IntKind.i64 (Dv.I (movedR x n true)), Value.int IntKind.i64 (Dv.S (movedR x n true)), Value.slice (some adA) (Dv.nx (movedR x n true)).length c, Value.slice (some adB) (Dv.out (movedR x n true)).length d, Value.int IntKind.i64 (Dv.st (movedR x n true)), Value.bool (Dv.rdy (movedR x n true)), Value.slice (some adC) (Dv.step (movedR x n true)).length e, Value.int IntKind.i64 (Dv.rs (movedR x n true)), Value.int IntKind.i64 (Dv.lost (movedR x n true)), Value.int IntKind.i64 (Dv.wrong (movedR x n true)), Value.int IntKind.i64 (Dv.crash (movedR x n true)), Value.int IntKind.u64 (Dv.seed (movedR x n true)), Value.int IntKind.i64 (Dv.steps (movedR x n true)), Value.int IntKind.i64 (Dv.resets (movedR x n true)), Value.int IntKind.i64 (Dv.time (movedR x n true))])
      exact ret_d3 (RowD.put HZ.out (movedR x n true) (some adA) c (some adB) d (some adC) e) rfl rfl rfl ⟨by rw [HA.out.1, HA.out.2, HE.out.1]; rfl, hbz⟩
    · have hob1 := hob.out.1
      have hob2 := hob.out.2
      have HA : Hid (spO x n = o + 1 ∧ spX x n = movedR x n true) := Lib.hid ⟨by rw [HE.out.2.2, HOut.out, HV2.out]; exact ans_3 v1 v2 v3, by rw [HE.out.2.1]; exact moved_r (by rw [HV2.out]; exact ((rdy_1 v2).trans HR.out))⟩
      go_upto_region 24 with fail
      go_wp2_with (first | (refine wpList_load_row rfl 32 _ rfl w.heap.size rfl 32 _ (0, 0) _ HX.out Try.underlying32 rfl (by kernel_rfl) ?_) | (refine wpList_store_row rfl 32 _ _ rfl (w.heap.size + 1) _ rfl rfl 32 z HZ.out (by kernel_rfl) hzs (dc_one (movedR x n true) _ _ _ _ _ _) ?_))
      have hbz := belowRow hbel (Nat.le_succ w.heap.size) (#[Value.int IntKind.i64 (Dv.I (movedR x n true)), Value.int IntKind.i64 (Dv.S (movedR x n true)), Value.slice (some adA) (Dv.nx (movedR x n true)).length c, Value.slice (some adB) (Dv.out (movedR x n true)).length d, Value.int IntKind.i64 (Dv.st (movedR x n true)), Value.bool (Dv.rdy (movedR x n true)), Value.slice (some adC) (Dv.step (movedR x n true)).length e, Value.int IntKind.i64 (Dv.rs (movedR x n true)), Value.int IntKind.i64 (Dv.lost (movedR x n true)), Value.int IntKind.i64 (Dv.wrong (movedR x n true)), Value.int IntKind.i64 (Dv.crash (movedR x n true)), Value.int IntKind.u64 (Dv.seed (movedR x n true)), Value.int IntKind.i64 (Dv.steps (movedR x n true)), Value.int IntKind.i64 (Dv.resets (movedR x n true)), Value.int IntKind.i64 (Dv.time (movedR x n true))])
      exact ret_d3 (RowD.put HZ.out (movedR x n true) (some adA) c (some adB) d (some adC) e) rfl rfl rfl ⟨by rw [HA.out.1, HA.out.2, HE.out.1]; rfl, hbz⟩
  by_cases v4 : v < x.lost + x.wrong + x.crash
  · have hf5 := HX.out.fro 5
    have hc5 : w8.cell? ⟨w.heap.size, 5, none⟩ = some (.bool true) := HX.out.box.c5
    have hbel9 : Below w.heap.size w (w8.setCell ⟨w.heap.size, 5, none⟩ (.bool false)) := hbel.setCell (Nat.le_refl _) _
    have HZ9 := z_oth (j := 5) (u := Value.bool false) HZ.out (Nat.succ_ne_self _)
    have HA : Hid (spO x n = o ∧ spX x n = movedR x n false) := Lib.hid ⟨by rw [HE.out.2.2, HOut.out, HV2.out]; exact ans_4 v1 v2, by rw [HE.out.2.1]; exact moved_r (by rw [HV2.out]; exact (rdy_2 v2 v4))⟩
    go_upto_region 24 with fail
    go_wp2_with (first | (refine wpList_load_row rfl 32 _ rfl w.heap.size rfl 32 _ (0, 0) _ (HX.out.setRdy false) Try.underlying32 rfl (by kernel_rfl) ?_) | (refine wpList_store_row rfl 32 _ _ rfl (w.heap.size + 1) _ rfl rfl 32 z HZ9 (by kernel_rfl) hzs (dc_one (movedR x n false) _ _ _ _ _ _) ?_))
    have hbz := belowRow hbel9 (Nat.le_succ w.heap.size) (#[Value.int IntKind.i64 (Dv.I (movedR x n false)), Value.int IntKind.i64 (Dv.S (movedR x n false)), Value.slice (some adA) (Dv.nx (movedR x n false)).length c, Value.slice (some adB) (Dv.out (movedR x n false)).length d, Value.int IntKind.i64 (Dv.st (movedR x n false)), Value.bool (Dv.rdy (movedR x n false)), Value.slice (some adC) (Dv.step (movedR x n false)).length e, Value.int IntKind.i64 (Dv.rs (movedR x n false)), Value.int IntKind.i64 (Dv.lost (movedR x n false)), Value.int IntKind.i64 (Dv.wrong (movedR x n false)), Value.int IntKind.i64 (Dv.crash (movedR x n false)), Value.int IntKind.u64 (Dv.seed (movedR x n false)), Value.int IntKind.i64 (Dv.steps (movedR x n false)), Value.int IntKind.i64 (Dv.resets (movedR x n false)), Value.int IntKind.i64 (Dv.time (movedR x n false))])
    exact ret_d3 (RowD.put HZ9 (movedR x n false) (some adA) c (some adB) d (some adC) e) rfl rfl rfl ⟨by rw [HA.out.1, HA.out.2, HE.out.1]; rfl, hbz⟩
  · skip
    have HA : Hid (spO x n = o ∧ spX x n = movedR x n true) := Lib.hid ⟨by rw [HE.out.2.2, HOut.out, HV2.out]; exact ans_4 v1 v2, by rw [HE.out.2.1]; exact moved_r (by rw [HV2.out]; exact ((rdy_3 v2 v4).trans HR.out))⟩
    go_upto_region 24 with fail
    go_wp2_with (first | (refine wpList_load_row rfl 32 _ rfl w.heap.size rfl 32 _ (0, 0) _ HX.out Try.underlying32 rfl (by kernel_rfl) ?_) | (refine wpList_store_row rfl 32 _ _ rfl (w.heap.size + 1) _ rfl rfl 32 z HZ.out (by kernel_rfl) hzs (dc_one (movedR x n true) _ _ _ _ _ _) ?_))
    have hbz := belowRow hbel (Nat.le_succ w.heap.size) (#[Value.int IntKind.i64 (Dv.I (movedR x n true)), Value.int IntKind.i64 (Dv.S (movedR x n true)), Value.slice (some adA) (Dv.nx (movedR x n true)).length c, Value.slice (some adB) (Dv.out (movedR x n true)).length d, Value.int IntKind.i64 (Dv.st (movedR x n true)), Value.bool (Dv.rdy (movedR x n true)), Value.slice (some adC) (Dv.step (movedR x n true)).length e, Value.int IntKind.i64 (Dv.rs (movedR x n true)), Value.int IntKind.i64 (Dv.lost (movedR x n true)), Value.int IntKind.i64 (Dv.wrong (movedR x n true)), Value.int IntKind.i64 (Dv.crash (movedR x n true)), Value.int IntKind.u64 (Dv.seed (movedR x n true)), Value.int IntKind.i64 (Dv.steps (movedR x n true)), Value.int IntKind.i64 (Dv.resets (movedR x n true)), Value.int IntKind.i64 (Dv.time (movedR x n true))])
    exact ret_d3 (RowD.put HZ.out (movedR x n true) (some adA) c (some adB) d (some adC) e) rfl rfl rfl ⟨by rw [HA.out.1, HA.out.2, HE.out.1]; rfl, hbz⟩
end Go.Proofs.Ytpoppadihbgbgaa
