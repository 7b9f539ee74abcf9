/- Devices: Query of the reference. -/
import Derived.Test.YtpoppadihbgbgaaDev16
namespace Go.Proofs.Ytpoppadihbgbgaa
open Go.RowKit
/-- what holds in the loop of the reference's query: box of the device, box of the result, list -/
structure QR (w wr : World) (x y : Dv) (ws acc : List Int) (z : Array Value) (A : Option Addr) (c : Nat) (B : Option Addr) (d : Nat) (C : Option Addr) (e : Nat) (G : Option Addr) (g : Nat) : Prop where
  run : runQ y acc (ws.drop acc.length) = runQ (resetX x) [] ws
  pre : Pre y
  same : Same3 x y
  row : RowD wr w.heap.size 32 y A c B d C e
  zer : wr.heap[w.heap.size + 1]? = some (.cells z 32)
  own : wr.ownsRow (w.heap.size + 2) 3 1 (.slice G acc.length g) acc.length (acc.map (.int .i64))
  bel : Below w.heap.size w wr
  siz : w.heap.size + 1 < wr.heap.size
/-- in a valid device, reset or not, an error of a step is no output of the table -/
theorem stepO_lo {y : Dv} (h : OkD y) {a : Int} (h0 : stepE y a = 0) : -1 ≤ stepO y a := by
  obtain ⟨h1, h2, h3⟩ := step_ok h0
  have h4 := outB_f h2
  have h5 := h.I0
  have h6 := h.st0
  have h7 := h.st1
  have h8 := h.m.cell y.st.toNat a.toNat (by omega) (by omega)
  have h9 : 0 ≤ outD y a := h8.2.2.1
  rw [stepO_eq h0]
  unfold answ
  split
  · omega
  · split
    · omega
    · split <;> omega
theorem valid_step {y : Dv} (h : Pre y) (a : Int) : spE y a = stepE y a ∧ spX y a = stepX y a ∧ spO y a = stepO y a := by
  have := h.ok.valid
  exact ⟨if_pos this, if_pos this, if_pos this⟩
theorem rs_of {x : Dv} (h : validD x = 0) : rsE x = resetE x ∧ rsX x = resetX x := ⟨if_pos h, if_pos h⟩
set_option maxRecDepth 100000 in
set_option maxHeartbeats 8000000 in
theorem Query_r (x : Dv) (ws : List Int) (A B C F : Option Addr) (c d e f : Nat) (w : World) (h : RdD w A B C x) (hw : Rd w F ws) (s0 : 0 ≤ x.seed) (s1 : x.seed < 18446744073709551616) (hwn : ws.length ≤ 1000000) :
    Calls Try.prog 25 #[(Value.agg #[Value.int IntKind.i64 (Dv.I x), Value.int IntKind.i64 (Dv.S x), Value.slice A (Dv.nx x).length c, Value.slice B (Dv.out x).length d, Value.int IntKind.i64 (Dv.st x), Value.bool (Dv.rdy x), Value.slice C (Dv.step x).length e, Value.int IntKind.i64 (Dv.rs x), Value.int IntKind.i64 (Dv.lost x), Value.int IntKind.i64 (Dv.wrong x), Value.int IntKind.i64 (Dv.crash x), Value.int IntKind.u64 (Dv.seed x), Value.int IntKind.i64 (Dv.steps x), Value.int IntKind.i64 (Dv.resets x), Value.int IntKind.i64 (Dv.time x)]), .slice F ws.length f] w (DevQ (qrX x ws) (qrO x ws) (.int .i64 (qrE x ws)) w) := by
  have HM := Lib.hid h
  have HW := Lib.hid hw
  clear h hw
  go_enter Try.func25, Try.ntmps25
  go_wp2_with fail
  obtain ⟨z, hz⟩ : ∃ z : Array Value, z = #[Value.int IntKind.i64 0, Value.int IntKind.i64 0, Value.slice none 0 0, Value.slice none 0 0,
          Value.int IntKind.i64 0, Value.bool false, Value.slice none 0 0, Value.int IntKind.i64 0,
          Value.int IntKind.i64 0, Value.int IntKind.i64 0, Value.int IntKind.i64 0, Value.int IntKind.u64 0,
          Value.int IntKind.i64 0, Value.int IntKind.i64 0, Value.int IntKind.i64 0] := ⟨_, rfl⟩
  rw [← hz]
  have hzs : z.size = 15 := by rw [hz]; rfl
  clear hz
  obtain ⟨w0, hw0⟩ : ∃ w0, w0 = (w.alloc (.cells (#[Value.int IntKind.i64 (Dv.I x), Value.int IntKind.i64 (Dv.S x), Value.slice A (Dv.nx x).length c, Value.slice B (Dv.out x).length d, Value.int IntKind.i64 (Dv.st x), Value.bool (Dv.rdy x), Value.slice C (Dv.step x).length e, Value.int IntKind.i64 (Dv.rs x), Value.int IntKind.i64 (Dv.lost x), Value.int IntKind.i64 (Dv.wrong x), Value.int IntKind.i64 (Dv.crash x), Value.int IntKind.u64 (Dv.seed x), Value.int IntKind.i64 (Dv.steps x), Value.int IntKind.i64 (Dv.resets x), Value.int IntKind.i64 (Dv.time x)]) 32)).alloc (.cells z 32) := ⟨_, rfl⟩
  have HX : Hid (RowD w0 w.heap.size 32 x A c B d C e) := Lib.hid (by rw [hw0]; unfold RowD; rw [heap_alloc_old _ _ (size_new _ _), heap_alloc_new])
  have HZ : Hid (w0.heap[w.heap.size + 1]? = some (.cells z 32)) := Lib.hid (by rw [hw0, ← size_alloc w (.cells (#[Value.int IntKind.i64 (Dv.I x), Value.int IntKind.i64 (Dv.S x), Value.slice A (Dv.nx x).length c, Value.slice B (Dv.out x).length d, Value.int IntKind.i64 (Dv.st x), Value.bool (Dv.rdy x), Value.slice C (Dv.step x).length e, Value.int IntKind.i64 (Dv.rs x), Value.int IntKind.i64 (Dv.lost x), Value.int IntKind.i64 (Dv.wrong x), Value.int IntKind.i64 (Dv.crash x), Value.int IntKind.u64 (Dv.seed x), Value.int IntKind.i64 (Dv.steps x), Value.int IntKind.i64 (Dv.resets x), Value.int IntKind.i64 (Dv.time x)]) 32), heap_alloc_new])
  have hbel : Below w.heap.size w w0 := by rw [hw0]; exact ((Below.refl _ _).alloc (Nat.le_refl _) _).alloc (by rw [size_alloc]; omega) _
  have hlt : w.heap.size + 1 < w0.heap.size := by rw [hw0, size_alloc, size_alloc]; omega
  rw [← hw0]
  clear hw0
  refine (validD_r x A B C c d e w0 (HM.out.keep hbel)).mono ?_
  rintro r w1 ⟨rfl, hb⟩
  replace HX := Lib.hid (HX.out.keep (Nat.lt_of_succ_lt hlt) hb)
  replace HZ := Lib.hid ((hb.block _ hlt).trans HZ.out)
  replace hbel := below_seq hbel hb
  replace hlt := Nat.lt_of_lt_of_le hlt hb.size
  clear hb
  by_cases hv : validD x = 0
  rotate_left
  · have hb := ne0 hv
    have HE := Lib.hid (qr_1 (w := ws) hv)
    clear hv
    go_upto_region 2 with fail
    refine wp_region_any (by kernel_rfl) ?_
    change wpAny _ _ _ _ _ _ _ (World.drew _)
    generalize hwa : World.drew _ = wa
    replace HX := Lib.hid (show RowD wa w.heap.size 32 x A c B d C e by rw [← hwa]; exact HX.out)
    replace HZ := Lib.hid (show wa.heap[w.heap.size + 1]? = some (.cells z 32) by rw [← hwa]; exact HZ.out)
    replace hbel : Below w.heap.size w wa := by rw [← hwa]; exact hbel.drew
    replace hlt : w.heap.size + 1 < wa.heap.size := by rw [← hwa]; exact hlt
    clear hwa
    refine wpAny_ready (rs := [0, 1]) (by kernel_rfl) (by simp) ?_
    refine AllReady.cons rfl (fun K hK => ?_) (AllReady.cons rfl (fun K hK => ?_) AllReady.nil)
    · skip
      rw [if_pos (by rfl)]
      refine wp_load_row 32 _ rfl w.heap.size rfl 32 _ (0, 0) _ HX.out Try.underlying32 rfl (by kernel_rfl) ?_
      refine hK _ _ ?_
      clear hK K
      change wpAny _ _ _ _ _ _ (Act.put _ (some 14) _) _
      try simp only [Act.put, List.setIfInBounds_toArray, List.set_cons_zero, List.set_cons_succ]
      refine wpAny_ready (rs := [1]) (by kernel_rfl) (by simp) ?_
      refine AllReady.cons rfl (fun K hK => ?_) AllReady.nil
      rw [if_pos (by rfl)]
      refine wp_load_row 32 _ rfl w.heap.size rfl 32 _ (0, 0) _ HX.out Try.underlying32 rfl (by kernel_rfl) ?_
      refine hK _ _ ?_
      clear hK K
      change wpAny _ _ _ _ _ _ (Act.put _ (some 15) _) _
      try simp only [Act.put, List.setIfInBounds_toArray, List.set_cons_zero, List.set_cons_succ]
      refine wpAny_ready (rs := [2]) (by kernel_rfl) (by simp) ?_
      refine AllReady.cons rfl (fun K hK => ?_) AllReady.nil
      try go_simp
      refine (validD_r x A B C c d e _ (HM.out.keep hbel)).mono ?_
      rintro r wv ⟨rfl, hb⟩
      refine hK _ _ ?_
      clear hK K
      replace HX := Lib.hid (HX.out.keep (Nat.lt_of_succ_lt hlt) hb)
      replace HZ := Lib.hid ((hb.block _ hlt).trans HZ.out)
      replace hbel := below_seq hbel hb
      replace hlt := Nat.lt_of_lt_of_le hlt hb.size
      clear hb
      try clear wa
      rename World => wa
      try simp only [Act.put, List.setIfInBounds_toArray, List.set_cons_zero, List.set_cons_succ]
      refine wpAny_ready (rs := [3]) (by kernel_rfl) (by simp) ?_
      refine AllReady.cons rfl (fun K hK => ?_) AllReady.nil
      rw [if_pos (by rfl)]
      refine wp_store_row 32 _ _ rfl (w.heap.size + 1) _ rfl rfl 32 z HZ.out (by kernel_rfl) hzs (dc_one _ _ _ _ _ _ _) ?_
      refine hK _ _ ?_
      clear hK K
      change wpAny _ _ _ _ _ _ (Act.put _ none _) _
      try simp only [Act.put]
      refine take1 (i := 4) (d := some 5) (v := ?_) rfl rfl (by kernel_rfl) (by kernel_rfl) (by kernel_rfl) (fun _ _ _ h => h) (Or.inl ⟨by rfl, ?_⟩) ?_
      rotate_left
      · intro w; first | (go_simp; done) | (go_simp; with_reducible rfl)
      simp only [Act.put, List.setIfInBounds_toArray, List.set_cons_zero, List.set_cons_succ]
      refine take1 (i := 5) (d := some 6) (v := ?_) rfl rfl (by kernel_rfl) (by kernel_rfl) (by kernel_rfl) (fun _ _ _ h => h) (Or.inl ⟨by rfl, ?_⟩) ?_
      rotate_left
      · intro w; first | (go_simp; done) | (go_simp; with_reducible rfl)
      simp only [Act.put, List.setIfInBounds_toArray, List.set_cons_zero, List.set_cons_succ]
      refine wpAny_done (by kernel_rfl) ?_ _
      go_wp2_with fail
      have hbz := belowRow hbel (Nat.le_succ w.heap.size) (#[Value.int IntKind.i64 (Dv.I x), Value.int IntKind.i64 (Dv.S x), Value.slice A (Dv.nx x).length c, Value.slice B (Dv.out x).length d, Value.int IntKind.i64 (Dv.st x), Value.bool (Dv.rdy x), Value.slice C (Dv.step x).length e, Value.int IntKind.i64 (Dv.rs x), Value.int IntKind.i64 (Dv.lost x), Value.int IntKind.i64 (Dv.wrong x), Value.int IntKind.i64 (Dv.crash x), Value.int IntKind.u64 (Dv.seed x), Value.int IntKind.i64 (Dv.steps x), Value.int IntKind.i64 (Dv.resets x), Value.int IntKind.i64 (Dv.time x)])
      refine ret_d3 (RowD.put HZ.out x A c B d C e) rfl rfl rfl ⟨⟨A, c, B, d, C, e, none, 0, by rw [HE.out.1, HE.out.2.1, HE.out.2.2]; rfl, ?_, ?_⟩, hbz⟩
      · rw [HE.out.2.1]
        exact HM.out.keep hbz
      · rw [HE.out.2.2]; exact RdK.nil
    · skip
      rw [if_pos (by rfl)]
      refine wp_load_row 32 _ rfl w.heap.size rfl 32 _ (0, 0) _ HX.out Try.underlying32 rfl (by kernel_rfl) ?_
      refine hK _ _ ?_
      clear hK K
      change wpAny _ _ _ _ _ _ (Act.put _ (some 15) _) _
      try simp only [Act.put, List.setIfInBounds_toArray, List.set_cons_zero, List.set_cons_succ]
      refine wpAny_ready (rs := [0, 2]) (by kernel_rfl) (by simp) ?_
      refine AllReady.cons rfl (fun K hK => ?_) (AllReady.cons rfl (fun K hK => ?_) AllReady.nil)
      · skip
        rw [if_pos (by rfl)]
        refine wp_load_row 32 _ rfl w.heap.size rfl 32 _ (0, 0) _ HX.out Try.underlying32 rfl (by kernel_rfl) ?_
        refine hK _ _ ?_
        clear hK K
        change wpAny _ _ _ _ _ _ (Act.put _ (some 14) _) _
        try simp only [Act.put, List.setIfInBounds_toArray, List.set_cons_zero, List.set_cons_succ]
        refine wpAny_ready (rs := [2]) (by kernel_rfl) (by simp) ?_
        refine AllReady.cons rfl (fun K hK => ?_) AllReady.nil
        try go_simp
        refine (validD_r x A B C c d e _ (HM.out.keep hbel)).mono ?_
        rintro r wv ⟨rfl, hb⟩
        refine hK _ _ ?_
        clear hK K
        replace HX := Lib.hid (HX.out.keep (Nat.lt_of_succ_lt hlt) hb)
        replace HZ := Lib.hid ((hb.block _ hlt).trans HZ.out)
        replace hbel := below_seq hbel hb
        replace hlt := Nat.lt_of_lt_of_le hlt hb.size
        clear hb
        try clear wa
        rename World => wa
        try simp only [Act.put, List.setIfInBounds_toArray, List.set_cons_zero, List.set_cons_succ]
        refine wpAny_ready (rs := [3]) (by kernel_rfl) (by simp) ?_
        refine AllReady.cons rfl (fun K hK => ?_) AllReady.nil
        rw [if_pos (by rfl)]
        refine wp_store_row 32 _ _ rfl (w.heap.size + 1) _ rfl rfl 32 z HZ.out (by kernel_rfl) hzs (dc_one _ _ _ _ _ _ _) ?_
        refine hK _ _ ?_
        clear hK K
        change wpAny _ _ _ _ _ _ (Act.put _ none _) _
        try simp only [Act.put]
        refine take1 (i := 4) (d := some 5) (v := ?_) rfl rfl (by kernel_rfl) (by kernel_rfl) (by kernel_rfl) (fun _ _ _ h => h) (Or.inl ⟨by rfl, ?_⟩) ?_
        rotate_left
        · intro w; first | (go_simp; done) | (go_simp; with_reducible rfl)
        simp only [Act.put, List.setIfInBounds_toArray, List.set_cons_zero, List.set_cons_succ]
        refine take1 (i := 5) (d := some 6) (v := ?_) rfl rfl (by kernel_rfl) (by kernel_rfl) (by kernel_rfl) (fun _ _ _ h => h) (Or.inl ⟨by rfl, ?_⟩) ?_
        rotate_left
        · intro w; first | (go_simp; done) | (go_simp; with_reducible rfl)
        simp only [Act.put, List.setIfInBounds_toArray, List.set_cons_zero, List.set_cons_succ]
        refine wpAny_done (by kernel_rfl) ?_ _
        go_wp2_with fail
        have hbz := belowRow hbel (Nat.le_succ w.heap.size) (#[Value.int IntKind.i64 (Dv.I x), Value.int IntKind.i64 (Dv.S x), Value.slice A (Dv.nx x).length c, Value.slice B (Dv.out x).length d, Value.int IntKind.i64 (Dv.st x), Value.bool (Dv.rdy x), Value.slice C (Dv.step x).length e, Value.int IntKind.i64 (Dv.rs x), Value.int IntKind.i64 (Dv.lost x), Value.int IntKind.i64 (Dv.wrong x), Value.int IntKind.i64 (Dv.crash x), Value.int IntKind.u64 (Dv.seed x), Value.int IntKind.i64 (Dv.steps x), Value.int IntKind.i64 (Dv.resets x), Value.int IntKind.i64 (Dv.time x)])
        refine ret_d3 (RowD.put HZ.out x A c B d C e) rfl rfl rfl ⟨⟨A, c, B, d, C, e, none, 0, by rw [HE.out.1, HE.out.2.1, HE.out.2.2]; rfl, ?_, ?_⟩, hbz⟩
        · rw [HE.out.2.1]
          exact HM.out.keep hbz
        · rw [HE.out.2.2]; exact RdK.nil
      · skip
        try go_simp
        refine (validD_r x A B C c d e _ (HM.out.keep hbel)).mono ?_
        rintro r wv ⟨rfl, hb⟩
        refine hK _ _ ?_
        clear hK K
        replace HX := Lib.hid (HX.out.keep (Nat.lt_of_succ_lt hlt) hb)
        replace HZ := Lib.hid ((hb.block _ hlt).trans HZ.out)
        replace hbel := below_seq hbel hb
        replace hlt := Nat.lt_of_lt_of_le hlt hb.size
        clear hb
        try clear wa
        rename World => wa
        try simp only [Act.put, List.setIfInBounds_toArray, List.set_cons_zero, List.set_cons_succ]
        refine wpAny_ready (rs := [0]) (by kernel_rfl) (by simp) ?_
        refine AllReady.cons rfl (fun K hK => ?_) AllReady.nil
        rw [if_pos (by rfl)]
        refine wp_load_row 32 _ rfl w.heap.size rfl 32 _ (0, 0) _ HX.out Try.underlying32 rfl (by kernel_rfl) ?_
        refine hK _ _ ?_
        clear hK K
        change wpAny _ _ _ _ _ _ (Act.put _ (some 14) _) _
        try simp only [Act.put, List.setIfInBounds_toArray, List.set_cons_zero, List.set_cons_succ]
        refine wpAny_ready (rs := [3]) (by kernel_rfl) (by simp) ?_
        refine AllReady.cons rfl (fun K hK => ?_) AllReady.nil
        rw [if_pos (by rfl)]
        refine wp_store_row 32 _ _ rfl (w.heap.size + 1) _ rfl rfl 32 z HZ.out (by kernel_rfl) hzs (dc_one _ _ _ _ _ _ _) ?_
        refine hK _ _ ?_
        clear hK K
        change wpAny _ _ _ _ _ _ (Act.put _ none _) _
        try simp only [Act.put]
        refine take1 (i := 4) (d := some 5) (v := ?_) rfl rfl (by kernel_rfl) (by kernel_rfl) (by kernel_rfl) (fun _ _ _ h => h) (Or.inl ⟨by rfl, ?_⟩) ?_
        rotate_left
        · intro w; first | (go_simp; done) | (go_simp; with_reducible rfl)
        simp only [Act.put, List.setIfInBounds_toArray, List.set_cons_zero, List.set_cons_succ]
        refine take1 (i := 5) (d := some 6) (v := ?_) rfl rfl (by kernel_rfl) (by kernel_rfl) (by kernel_rfl) (fun _ _ _ h => h) (Or.inl ⟨by rfl, ?_⟩) ?_
        rotate_left
        · intro w; first | (go_simp; done) | (go_simp; with_reducible rfl)
        simp only [Act.put, List.setIfInBounds_toArray, List.set_cons_zero, List.set_cons_succ]
        refine wpAny_done (by kernel_rfl) ?_ _
        go_wp2_with fail
        have hbz := belowRow hbel (Nat.le_succ w.heap.size) (#[Value.int IntKind.i64 (Dv.I x), Value.int IntKind.i64 (Dv.S x), Value.slice A (Dv.nx x).length c, Value.slice B (Dv.out x).length d, Value.int IntKind.i64 (Dv.st x), Value.bool (Dv.rdy x), Value.slice C (Dv.step x).length e, Value.int IntKind.i64 (Dv.rs x), Value.int IntKind.i64 (Dv.lost x), Value.int IntKind.i64 (Dv.wrong x), Value.int IntKind.i64 (Dv.crash x), Value.int IntKind.u64 (Dv.seed x), Value.int IntKind.i64 (Dv.steps x), Value.int IntKind.i64 (Dv.resets x), Value.int IntKind.i64 (Dv.time x)])
        refine ret_d3 (RowD.put HZ.out x A c B d C e) rfl rfl rfl ⟨⟨A, c, B, d, C, e, none, 0, by rw [HE.out.1, HE.out.2.1, HE.out.2.2]; rfl, ?_, ?_⟩, hbz⟩
        · rw [HE.out.2.1]
          exact HM.out.keep hbz
        · rw [HE.out.2.2]; exact RdK.nil
  have HV := Lib.hid hv
  rw [hv]
  clear hv
  have hc0 := HX.out.box.c0
  go_wp2_with fail
  refine (check_r x.I F f ws w1 (HW.out.keep hbel)).mono ?_
  rintro r w2 ⟨rfl, rfl⟩
  clear hc0
  by_cases hv : checkE x.I ws = 0
  rotate_left
  · have hb := ne0 hv
    have HE := Lib.hid (qr_2 HV.out hv)
    clear hv
    go_upto_region 5 with fail
    go_wp2_with (first | (refine wpList_load_row rfl 32 _ rfl w.heap.size rfl 32 _ (0, 0) _ HX.out Try.underlying32 rfl (by kernel_rfl) ?_) | (refine wpList_store_row rfl 32 _ _ rfl (w.heap.size + 1) _ rfl rfl 32 z HZ.out (by kernel_rfl) hzs (dc_one _ _ _ _ _ _ _) ?_))
    have hbz := belowRow hbel (Nat.le_succ w.heap.size) (#[Value.int IntKind.i64 (Dv.I x), Value.int IntKind.i64 (Dv.S x), Value.slice A (Dv.nx x).length c, Value.slice B (Dv.out x).length d, Value.int IntKind.i64 (Dv.st x), Value.bool (Dv.rdy x), Value.slice C (Dv.step x).length e, Value.int IntKind.i64 (Dv.rs x), Value.int IntKind.i64 (Dv.lost x), Value.int IntKind.i64 (Dv.wrong x), Value.int IntKind.i64 (Dv.crash x), Value.int IntKind.u64 (Dv.seed x), Value.int IntKind.i64 (Dv.steps x), Value.int IntKind.i64 (Dv.resets x), Value.int IntKind.i64 (Dv.time x)])
    refine ret_d3 (RowD.put HZ.out x A c B d C e) rfl rfl rfl ⟨⟨A, c, B, d, C, e, none, 0, by rw [HE.out.1, HE.out.2.1, HE.out.2.2]; rfl, ?_, ?_⟩, hbz⟩
    · rw [HE.out.2.1]
      exact HM.out.keep hbz
    · rw [HE.out.2.2]; exact RdK.nil
  have HCk := Lib.hid hv
  rw [hv]
  clear hv
  go_upto_region 6 with fail
  go_wp2_with (refine wpList_load_row rfl 32 _ rfl w.heap.size rfl 32 _ (0, 0) _ HX.out Try.underlying32 rfl (by kernel_rfl) ?_)
  refine (Reset_s x A B C c d e w1 (HM.out.keep hbel)).mono ?_
  rintro r w2 ⟨rfl, hb⟩
  replace HX := Lib.hid (HX.out.keep (Nat.lt_of_succ_lt hlt) hb)
  replace HZ := Lib.hid ((hb.block _ hlt).trans HZ.out)
  replace hbel := below_seq hbel hb
  replace hlt := Nat.lt_of_lt_of_le hlt hb.size
  clear hb
  rw [(rs_of HV.out).1, (rs_of HV.out).2]
  go_upto_region 7 with (refine wpList_store_row rfl 32 _ _ rfl w.heap.size _ rfl rfl 32 _ HX.out (by kernel_rfl) rfl (dc_one (resetX x) _ _ _ _ _ _) ?_)
  generalize hw3 : World.setRow _ _ _ = w3
  replace HX : Hid (RowD w3 w.heap.size 32 (resetX x) A c B d C e) := Lib.hid (by rw [← hw3]; exact RowD.put HX.out (resetX x) A c B d C e)
  replace HZ : Hid (w3.heap[w.heap.size + 1]? = some (.cells z 32)) := Lib.hid (by rw [← hw3, setRow_other _ _ _ _ (Nat.succ_ne_self _)]; exact HZ.out)
  replace hbel : Below w.heap.size w w3 := by rw [← hw3]; exact belowRow hbel (Nat.le_refl _) _
  replace hlt : w.heap.size + 1 < w3.heap.size := by rw [← hw3, setRow_size]; exact hlt
  clear hw3
  by_cases hr : resetE x = 0
  rotate_left
  · have hb := ne0 hr
    have HE := Lib.hid (qr_3 HV.out HCk.out hr)
    have HX0 := HX.out
    rw [resetX_ne hr] at HX0
    replace HX := Lib.hid HX0
    clear hr HX0
    go_upto_region 8 with fail
    go_wp2_with (first | (refine wpList_load_row rfl 32 _ rfl w.heap.size rfl 32 _ (0, 0) _ HX.out Try.underlying32 rfl (by kernel_rfl) ?_) | (refine wpList_store_row rfl 32 _ _ rfl (w.heap.size + 1) _ rfl rfl 32 z HZ.out (by kernel_rfl) hzs (dc_one _ _ _ _ _ _ _) ?_))
    have hbz := belowRow hbel (Nat.le_succ w.heap.size) (#[Value.int IntKind.i64 (Dv.I x), Value.int IntKind.i64 (Dv.S x), Value.slice A (Dv.nx x).length c, Value.slice B (Dv.out x).length d, Value.int IntKind.i64 (Dv.st x), Value.bool (Dv.rdy x), Value.slice C (Dv.step x).length e, Value.int IntKind.i64 (Dv.rs x), Value.int IntKind.i64 (Dv.lost x), Value.int IntKind.i64 (Dv.wrong x), Value.int IntKind.i64 (Dv.crash x), Value.int IntKind.u64 (Dv.seed x), Value.int IntKind.i64 (Dv.steps x), Value.int IntKind.i64 (Dv.resets x), Value.int IntKind.i64 (Dv.time x)])
    refine ret_d3 (RowD.put HZ.out x A c B d C e) rfl rfl rfl ⟨⟨A, c, B, d, C, e, none, 0, by rw [HE.out.1, HE.out.2.1, HE.out.2.2]; rfl, ?_, ?_⟩, hbz⟩
    · rw [HE.out.2.1]
      exact HM.out.keep hbz
    · rw [HE.out.2.2]; exact RdK.nil
  have HE := Lib.hid (qr_4 HV.out HCk.out hr)
  have HP := Lib.hid (Pre.resetX (x := x) ⟨okD_of HV.out, s0, s1⟩)
  rw [hr]
  clear hr
  go_wp2_with fail
  clear s0 s1
  go_loopw [8, 9] (fun l u wr => ∃ (G : Option Addr) (g : Nat) (acc : List Int) (y : Dv), u = .int .i64 (acc.length : Int) ∧ l = .slice G acc.length g ∧ acc.length ≤ ws.length ∧ Hid (QR w wr x y ws acc z A c B d C e G g)) (fun _ u _ => ws.length - (intOf u).toNat)
  case atStart =>
    exact ⟨none, 0, [], resetX x, rfl, rfl, Nat.zero_le _, Lib.hid ⟨rfl, HP.out, Same3.resetX x, HX.out, HZ.out, World.ownsRow_nil _ _ _ _, hbel, hlt⟩⟩
  case round =>
    clear HX HZ hbel hlt w0
    obtain ⟨G, g, acc, y, rfl, rfl, hj, HQ⟩ := hrel
    by_cases hjl : acc.length < ws.length
    · obtain ⟨ad, a, rfl, ha, hca⟩ := (HW.out.keep HQ.out.bel).at_ hjl
      have HA := Lib.hid ha
      have HP := Lib.hid HQ.out.pre
      have HS := Lib.hid HQ.out.same
      have HR := Lib.hid HQ.out.run
      clear ha
      go_upto_region 14 with fail
      refine wp_region_any (by kernel_rfl) ?_
      change wpAny _ _ _ _ _ _ _ (World.drew _)
      generalize hwa : World.drew _ = wa
      have hb : Below wr.heap.size wr wa := by rw [← hwa]; exact (Below.refl _ _).drew
      have HX := Lib.hid (HQ.out.row.keep (Nat.lt_of_succ_lt HQ.out.siz) hb)
      have HZ := Lib.hid ((hb.block _ HQ.out.siz).trans HQ.out.zer)
      have HO := Lib.hid (own_keep HQ.out.own hb)
      have hbel := below_seq HQ.out.bel hb
      have hlt := Nat.lt_of_lt_of_le HQ.out.siz hb.size
      replace hca := keep_cell hb hca
      clear hwa hb
      refine take1 (i := 1) (d := some 43) (v := ?_) rfl rfl (by kernel_rfl) (by kernel_rfl) (by kernel_rfl) (fun _ _ _ h => h) (Or.inl ⟨by rfl, ?_⟩) ?_
      rotate_left
      · intro w; first | (go_simp; done) | (go_simp; with_reducible rfl)
      simp only [Act.put, List.setIfInBounds_toArray, List.set_cons_zero, List.set_cons_succ]
      refine take1 (i := 2) (d := some 44) (v := ?_) rfl rfl (by kernel_rfl) (by kernel_rfl) (by kernel_rfl) (fun _ _ _ h => h) (Or.inl ⟨by rfl, ?_⟩) ?_
      rotate_left
      · intro w; first | (go_simp; done) | (go_simp; with_reducible rfl)
      simp only [Act.put, List.setIfInBounds_toArray, List.set_cons_zero, List.set_cons_succ]
      refine take1 (i := 3) (d := some 45) (v := ?_) rfl rfl (by kernel_rfl) (by kernel_rfl) (by kernel_rfl) (fun _ _ _ h => h) (Or.inl ⟨by rfl, ?_⟩) ?_
      rotate_left
      · intro w; first | (go_simp; done) | (go_simp; with_reducible rfl)
      simp only [Act.put, List.setIfInBounds_toArray, List.set_cons_zero, List.set_cons_succ]
      refine wpAny_ready (rs := [0, 4]) (by kernel_rfl) (by simp) ?_
      refine AllReady.cons rfl (fun K hK => ?_) (AllReady.cons rfl (fun K hK => ?_) AllReady.nil)
      · skip
        rw [if_pos (by rfl)]
        refine wp_load_row 32 _ rfl w.heap.size rfl 32 _ (0, 0) _ HX.out Try.underlying32 rfl (by kernel_rfl) ?_
        refine hK _ _ ?_
        clear hK K
        change wpAny _ _ _ _ _ _ (Act.put _ (some 42) _) _
        try simp only [Act.put, List.setIfInBounds_toArray, List.set_cons_zero, List.set_cons_succ]
        refine wpAny_ready (rs := [4]) (by kernel_rfl) (by simp) ?_
        refine AllReady.cons rfl (fun K hK => ?_) AllReady.nil
        try go_simp
        refine hK _ _ ?_
        clear hK K
        try simp only [Act.put, List.setIfInBounds_toArray, List.set_cons_zero, List.set_cons_succ]
        refine wpAny_ready (rs := [5]) (by kernel_rfl) (by simp) ?_
        refine AllReady.cons rfl (fun K hK => ?_) AllReady.nil
        rw [if_pos (by rfl)]
        try go_simp
        refine (Step_s y a A B C c d e wa ((HM.out.keep hbel).same HS.out) HP.out.s0 HP.out.s1).mono ?_
        rintro r w4 ⟨rfl, hb⟩
        rw [(valid_step HP.out a).1, (valid_step HP.out a).2.1, (valid_step HP.out a).2.2]
        refine hK _ _ ?_
        clear hK K
        replace HX := Lib.hid (HX.out.keep (Nat.lt_of_succ_lt hlt) hb)
        replace HZ := Lib.hid ((hb.block _ hlt).trans HZ.out)
        replace HO := Lib.hid (own_keep HO.out hb)
        replace hbel := below_seq hbel hb
        replace hlt := Nat.lt_of_lt_of_le hlt hb.size
        clear hb hca
        try simp only [Act.put, List.setIfInBounds_toArray, List.set_cons_zero, List.set_cons_succ]
        refine take1 (i := 6) (d := some 41) (v := ?_) rfl rfl (by kernel_rfl) (by kernel_rfl) (by kernel_rfl) (fun _ _ _ h => h) (Or.inl ⟨by rfl, ?_⟩) ?_
        rotate_left
        · intro w; first | (go_simp; done) | (go_simp; with_reducible rfl)
        simp only [Act.put, List.setIfInBounds_toArray, List.set_cons_zero, List.set_cons_succ]
        refine take1 (i := 7) (d := some 48) (v := ?_) rfl rfl (by kernel_rfl) (by kernel_rfl) (by kernel_rfl) (fun _ _ _ h => h) (Or.inl ⟨by rfl, ?_⟩) ?_
        rotate_left
        · intro w; first | (go_simp; done) | (go_simp; with_reducible rfl)
        simp only [Act.put, List.setIfInBounds_toArray, List.set_cons_zero, List.set_cons_succ]
        refine take1 (i := 8) (d := some 49) (v := ?_) rfl rfl (by kernel_rfl) (by kernel_rfl) (by kernel_rfl) (fun _ _ _ h => h) (Or.inl ⟨by rfl, ?_⟩) ?_
        rotate_left
        · intro w; first | (go_simp; done) | (go_simp; with_reducible rfl)
        simp only [Act.put, List.setIfInBounds_toArray, List.set_cons_zero, List.set_cons_succ]
        refine take1 (i := 9) (d := some 50) (v := ?_) rfl rfl (by kernel_rfl) (by kernel_rfl) (by kernel_rfl) (fun _ _ _ h => h) (Or.inl ⟨by rfl, ?_⟩) ?_
        rotate_left
        · intro w; first | (go_simp; done) | (go_simp; with_reducible rfl)
        simp only [Act.put, List.setIfInBounds_toArray, List.set_cons_zero, List.set_cons_succ]
        refine wpAny_ready (rs := [10]) (by kernel_rfl) (by simp) ?_
        refine AllReady.cons rfl (fun K hK => ?_) AllReady.nil
        rw [if_pos (by rfl)]
        refine wp_store_row 32 _ _ rfl w.heap.size _ rfl rfl 32 _ HX.out (by kernel_rfl) rfl (dc_one (stepX y a) _ _ _ _ _ _) ?_
        refine hK _ _ ?_
        clear hK K
        change wpAny _ _ _ _ _ _ (Act.put _ none _) _
        generalize hw5 : World.setRow _ _ _ = w5
        replace HX : Hid (RowD w5 w.heap.size 32 (stepX y a) A c B d C e) := Lib.hid (by rw [← hw5]; exact RowD.put HX.out (stepX y a) A c B d C e)
        replace HZ : Hid (w5.heap[w.heap.size + 1]? = some (.cells z 32)) := Lib.hid (by rw [← hw5, setRow_other _ _ _ _ (Nat.succ_ne_self _)]; exact HZ.out)
        replace HO := Lib.hid (show w5.ownsRow (w.heap.size + 2) 3 1 (.slice G acc.length g) acc.length (acc.map (.int .i64)) by rw [← hw5]; exact ownsRow_setRow HO.out (by omega) _)
        replace hbel : Below w.heap.size w w5 := by rw [← hw5]; exact belowRow hbel (Nat.le_refl _) _
        replace hlt : w.heap.size + 1 < w5.heap.size := by rw [← hw5, setRow_size]; exact hlt
        clear hw5
        try simp only [Act.put]
        refine take1 (i := 11) (d := some 10) (v := ?_) rfl rfl (by kernel_rfl) (by kernel_rfl) (by kernel_rfl) (fun _ _ _ h => h) (Or.inl ⟨by rfl, ?_⟩) ?_
        rotate_left
        · intro w; first | (go_simp; done) | (go_simp; with_reducible rfl)
        simp only [Act.put, List.setIfInBounds_toArray, List.set_cons_zero, List.set_cons_succ]
        refine take1 (i := 12) (d := some 7) (v := ?_) rfl rfl (by kernel_rfl) (by kernel_rfl) (by kernel_rfl) (fun _ _ _ h => h) (Or.inl ⟨by rfl, ?_⟩) ?_
        rotate_left
        · intro w; first | (go_simp; done) | (go_simp; with_reducible rfl)
        simp only [Act.put, List.setIfInBounds_toArray, List.set_cons_zero, List.set_cons_succ]
        refine wpAny_done (by kernel_rfl) ?_ _
        by_cases h0 : stepE y a = 0
        rotate_left
        · have hb := ne0 h0
          have HF := Lib.hid (qr_fin HE.out (HR.out.symm.trans (runQ_err hjl (by rw [HA.out]; exact h0))))
          rw [HA.out] at HF
          clear h0
          go_upto_region 16 with fail
          go_wp2_with (first | (refine wpList_load_row rfl 32 _ rfl w.heap.size rfl 32 _ (0, 0) _ HX.out Try.underlying32 rfl (by kernel_rfl) ?_) | (refine wpList_store_row rfl 32 _ _ rfl (w.heap.size + 1) _ rfl rfl 32 z HZ.out (by kernel_rfl) hzs (dc_one _ _ _ _ _ _ _) ?_))
          have hbz := belowRow hbel (Nat.le_succ w.heap.size) (#[Value.int IntKind.i64 (Dv.I (stepX y a)), Value.int IntKind.i64 (Dv.S (stepX y a)), Value.slice A (Dv.nx (stepX y a)).length c, Value.slice B (Dv.out (stepX y a)).length d, Value.int IntKind.i64 (Dv.st (stepX y a)), Value.bool (Dv.rdy (stepX y a)), Value.slice C (Dv.step (stepX y a)).length e, Value.int IntKind.i64 (Dv.rs (stepX y a)), Value.int IntKind.i64 (Dv.lost (stepX y a)), Value.int IntKind.i64 (Dv.wrong (stepX y a)), Value.int IntKind.i64 (Dv.crash (stepX y a)), Value.int IntKind.u64 (Dv.seed (stepX y a)), Value.int IntKind.i64 (Dv.steps (stepX y a)), Value.int IntKind.i64 (Dv.resets (stepX y a)), Value.int IntKind.i64 (Dv.time (stepX y a))])
          refine ret_d3 (RowD.put HZ.out (stepX y a) A c B d C e) rfl rfl rfl ⟨⟨A, c, B, d, C, e, none, 0, by rw [HF.out.1, HF.out.2.1, HF.out.2.2]; rfl, ?_, ?_⟩, hbz⟩
          · rw [HF.out.2.1]
            exact (HM.out.keep hbz).same (HS.out.stepX a)
          · rw [HF.out.2.2]; exact RdK.nil
        have H0 := Lib.hid h0
        have hlo := stepO_lo HP.out.ok h0
        rw [h0]
        clear h0
        generalize hO : stepO y a = o at hlo
        have HO2 := Lib.hid hO
        clear hO
        by_cases h1 : o = -1
        · have HF := Lib.hid (qr_fin HE.out (HR.out.symm.trans (runQ_neg hjl (by rw [HA.out]; exact H0.out) (by rw [HA.out, HO2.out]; omega))))
          rw [HA.out] at HF
          subst h1
          go_upto_region 18 with fail
          go_wp2_with (first | (refine wpList_load_row rfl 32 _ rfl w.heap.size rfl 32 _ (0, 0) _ HX.out Try.underlying32 rfl (by kernel_rfl) ?_) | (refine wpList_store_row rfl 32 _ _ rfl (w.heap.size + 1) _ rfl rfl 32 z HZ.out (by kernel_rfl) hzs (dc_one _ _ _ _ _ _ _) ?_))
          have hbz := belowRow hbel (Nat.le_succ w.heap.size) (#[Value.int IntKind.i64 (Dv.I (stepX y a)), Value.int IntKind.i64 (Dv.S (stepX y a)), Value.slice A (Dv.nx (stepX y a)).length c, Value.slice B (Dv.out (stepX y a)).length d, Value.int IntKind.i64 (Dv.st (stepX y a)), Value.bool (Dv.rdy (stepX y a)), Value.slice C (Dv.step (stepX y a)).length e, Value.int IntKind.i64 (Dv.rs (stepX y a)), Value.int IntKind.i64 (Dv.lost (stepX y a)), Value.int IntKind.i64 (Dv.wrong (stepX y a)), Value.int IntKind.i64 (Dv.crash (stepX y a)), Value.int IntKind.u64 (Dv.seed (stepX y a)), Value.int IntKind.i64 (Dv.steps (stepX y a)), Value.int IntKind.i64 (Dv.resets (stepX y a)), Value.int IntKind.i64 (Dv.time (stepX y a))])
          refine ret_d3 (RowD.put HZ.out (stepX y a) A c B d C e) rfl rfl rfl ⟨⟨A, c, B, d, C, e, none, 0, by rw [HF.out.1, HF.out.2.1, HF.out.2.2]; rfl, ?_, ?_⟩, hbz⟩
          · rw [HF.out.2.1]
            exact (HM.out.keep hbz).same (HS.out.stepX a)
          · rw [HF.out.2.2]; exact RdK.nil
        have hne : (o == -1) = false := by simpa using h1
        have hc5 := HX.out.box.c5
        by_cases hrd : (stepX y a).rdy = false
        · rw [hrd] at hc5
          by_cases h2 : acc.length + 1 < ws.length
          · have HF := Lib.hid (qr_fin HE.out (HR.out.symm.trans (runQ_rdy hjl (by rw [HA.out]; exact H0.out) (by rw [HA.out]; exact hrd) h2)))
            rw [HA.out] at HF
            clear hrd
            have h3 : (acc.length : Int) < (ws.length : Int) - 1 := by omega
            go_upto_region 18 with fail
            go_wp2_with (first | (refine wpList_load_row rfl 32 _ rfl w.heap.size rfl 32 _ (0, 0) _ HX.out Try.underlying32 rfl (by kernel_rfl) ?_) | (refine wpList_store_row rfl 32 _ _ rfl (w.heap.size + 1) _ rfl rfl 32 z HZ.out (by kernel_rfl) hzs (dc_one _ _ _ _ _ _ _) ?_))
            have hbz := belowRow hbel (Nat.le_succ w.heap.size) (#[Value.int IntKind.i64 (Dv.I (stepX y a)), Value.int IntKind.i64 (Dv.S (stepX y a)), Value.slice A (Dv.nx (stepX y a)).length c, Value.slice B (Dv.out (stepX y a)).length d, Value.int IntKind.i64 (Dv.st (stepX y a)), Value.bool (Dv.rdy (stepX y a)), Value.slice C (Dv.step (stepX y a)).length e, Value.int IntKind.i64 (Dv.rs (stepX y a)), Value.int IntKind.i64 (Dv.lost (stepX y a)), Value.int IntKind.i64 (Dv.wrong (stepX y a)), Value.int IntKind.i64 (Dv.crash (stepX y a)), Value.int IntKind.u64 (Dv.seed (stepX y a)), Value.int IntKind.i64 (Dv.steps (stepX y a)), Value.int IntKind.i64 (Dv.resets (stepX y a)), Value.int IntKind.i64 (Dv.time (stepX y a))])
            refine ret_d3 (RowD.put HZ.out (stepX y a) A c B d C e) rfl rfl rfl ⟨⟨A, c, B, d, C, e, none, 0, by rw [HF.out.1, HF.out.2.1, HF.out.2.2]; rfl, ?_, ?_⟩, hbz⟩
            · rw [HF.out.2.1]
              exact (HM.out.keep hbz).same (HS.out.stepX a)
            · rw [HF.out.2.2]; exact RdK.nil
          · clear hrd
            have h3 : ¬ (acc.length : Int) < (ws.length : Int) - 1 := by omega
            have HF := Lib.hid (HR.out.symm.trans (runQ_go hjl (by rw [HA.out]; exact H0.out) (by rw [HA.out, HO2.out]; omega) (by rw [HA.out]; exact .inr h2)))
            have hs5 : w.heap.size + 2 ≤ w5.heap.size := hlt
            go_wp2_with (at_builtin; refine app1 rfl (.tmp 70) (.tmp 72) 25 3 _ _ rfl Try.underlying25 info3 rfl (by decide) rfl rfl HO.out rfl (by omega) hs5 ?_; intro v' w6 hown' hb' hsz'; obtain ⟨G5, g5, rfl⟩ := own_slice hown'; have HB6 := Lib.hid hb'; clear hb')
            go_roundw
            case rel =>
              have hb6 := HB6.out (w.heap.size + 2) _ (Nat.le_refl _) (Below.refl _ _)
              refine ⟨G5, g5, acc ++ [o], stepX y a, by simp, by simp, by simp; omega, Lib.hid ⟨?_, HP.out.stepX a, HS.out.stepX a, HX.out.keep (by omega) hb6, (hb6.block _ (by omega)).trans HZ.out, ?_, HB6.out _ _ (by omega) hbel, by omega⟩⟩
              · rw [HF.out, HA.out, HO2.out, List.length_append]; rfl
              · rw [List.map_append, List.length_append]; exact hown'
            case measure => first | (simp [intOf]; done) | (simp [intOf]; omega)
        replace hrd : (stepX y a).rdy = true := by simpa using hrd
        rw [hrd] at hc5
        have HRd := Lib.hid hrd
        clear hrd
        have HF := Lib.hid (HR.out.symm.trans (runQ_go hjl (by rw [HA.out]; exact H0.out) (by rw [HA.out, HO2.out]; omega) (by rw [HA.out]; exact .inl HRd.out)))
        have hs5 : w.heap.size + 2 ≤ w5.heap.size := hlt
        go_wp2_with (at_builtin; refine app1 rfl (.tmp 70) (.tmp 72) 25 3 _ _ rfl Try.underlying25 info3 rfl (by decide) rfl rfl HO.out rfl (by omega) hs5 ?_; intro v' w6 hown' hb' hsz'; obtain ⟨G5, g5, rfl⟩ := own_slice hown'; have HB6 := Lib.hid hb'; clear hb')
        go_roundw
        case rel =>
          have hb6 := HB6.out (w.heap.size + 2) _ (Nat.le_refl _) (Below.refl _ _)
          refine ⟨G5, g5, acc ++ [o], stepX y a, by simp, by simp, by simp; omega, Lib.hid ⟨?_, HP.out.stepX a, HS.out.stepX a, HX.out.keep (by omega) hb6, (hb6.block _ (by omega)).trans HZ.out, ?_, HB6.out _ _ (by omega) hbel, by omega⟩⟩
          · rw [HF.out, HA.out, HO2.out, List.length_append]; rfl
          · rw [List.map_append, List.length_append]; exact hown'
        case measure => first | (simp [intOf]; done) | (simp [intOf]; omega)
      · skip
        try go_simp
        refine hK _ _ ?_
        clear hK K
        try simp only [Act.put, List.setIfInBounds_toArray, List.set_cons_zero, List.set_cons_succ]
        refine wpAny_ready (rs := [0]) (by kernel_rfl) (by simp) ?_
        refine AllReady.cons rfl (fun K hK => ?_) AllReady.nil
        rw [if_pos (by rfl)]
        refine wp_load_row 32 _ rfl w.heap.size rfl 32 _ (0, 0) _ HX.out Try.underlying32 rfl (by kernel_rfl) ?_
        refine hK _ _ ?_
        clear hK K
        change wpAny _ _ _ _ _ _ (Act.put _ (some 42) _) _
        try simp only [Act.put, List.setIfInBounds_toArray, List.set_cons_zero, List.set_cons_succ]
        refine wpAny_ready (rs := [5]) (by kernel_rfl) (by simp) ?_
        refine AllReady.cons rfl (fun K hK => ?_) AllReady.nil
        rw [if_pos (by rfl)]
        try go_simp
        refine (Step_s y a A B C c d e wa ((HM.out.keep hbel).same HS.out) HP.out.s0 HP.out.s1).mono ?_
        rintro r w4 ⟨rfl, hb⟩
        rw [(valid_step HP.out a).1, (valid_step HP.out a).2.1, (valid_step HP.out a).2.2]
        refine hK _ _ ?_
        clear hK K
        replace HX := Lib.hid (HX.out.keep (Nat.lt_of_succ_lt hlt) hb)
        replace HZ := Lib.hid ((hb.block _ hlt).trans HZ.out)
        replace HO := Lib.hid (own_keep HO.out hb)
        replace hbel := below_seq hbel hb
        replace hlt := Nat.lt_of_lt_of_le hlt hb.size
        clear hb hca
        try simp only [Act.put, List.setIfInBounds_toArray, List.set_cons_zero, List.set_cons_succ]
        refine take1 (i := 6) (d := some 41) (v := ?_) rfl rfl (by kernel_rfl) (by kernel_rfl) (by kernel_rfl) (fun _ _ _ h => h) (Or.inl ⟨by rfl, ?_⟩) ?_
        rotate_left
        · intro w; first | (go_simp; done) | (go_simp; with_reducible rfl)
        simp only [Act.put, List.setIfInBounds_toArray, List.set_cons_zero, List.set_cons_succ]
        refine take1 (i := 7) (d := some 48) (v := ?_) rfl rfl (by kernel_rfl) (by kernel_rfl) (by kernel_rfl) (fun _ _ _ h => h) (Or.inl ⟨by rfl, ?_⟩) ?_
        rotate_left
        · intro w; first | (go_simp; done) | (go_simp; with_reducible rfl)
        simp only [Act.put, List.setIfInBounds_toArray, List.set_cons_zero, List.set_cons_succ]
        refine take1 (i := 8) (d := some 49) (v := ?_) rfl rfl (by kernel_rfl) (by kernel_rfl) (by kernel_rfl) (fun _ _ _ h => h) (Or.inl ⟨by rfl, ?_⟩) ?_
        rotate_left
        · intro w; first | (go_simp; done) | (go_simp; with_reducible rfl)
        simp only [Act.put, List.setIfInBounds_toArray, List.set_cons_zero, List.set_cons_succ]
        refine take1 (i := 9) (d := some 50) (v := ?_) rfl rfl (by kernel_rfl) (by kernel_rfl) (by kernel_rfl) (fun _ _ _ h => h) (Or.inl ⟨by rfl, ?_⟩) ?_
        rotate_left
        · intro w; first | (go_simp; done) | (go_simp; with_reducible rfl)
        simp only [Act.put, List.setIfInBounds_toArray, List.set_cons_zero, List.set_cons_succ]
        refine wpAny_ready (rs := [10]) (by kernel_rfl) (by simp) ?_
        refine AllReady.cons rfl (fun K hK => ?_) AllReady.nil
        rw [if_pos (by rfl)]
        refine wp_store_row 32 _ _ rfl w.heap.size _ rfl rfl 32 _ HX.out (by kernel_rfl) rfl (dc_one (stepX y a) _ _ _ _ _ _) ?_
        refine hK _ _ ?_
        clear hK K
        change wpAny _ _ _ _ _ _ (Act.put _ none _) _
        generalize hw5 : World.setRow _ _ _ = w5
        replace HX : Hid (RowD w5 w.heap.size 32 (stepX y a) A c B d C e) := Lib.hid (by rw [← hw5]; exact RowD.put HX.out (stepX y a) A c B d C e)
        replace HZ : Hid (w5.heap[w.heap.size + 1]? = some (.cells z 32)) := Lib.hid (by rw [← hw5, setRow_other _ _ _ _ (Nat.succ_ne_self _)]; exact HZ.out)
        replace HO := Lib.hid (show w5.ownsRow (w.heap.size + 2) 3 1 (.slice G acc.length g) acc.length (acc.map (.int .i64)) by rw [← hw5]; exact ownsRow_setRow HO.out (by omega) _)
        replace hbel : Below w.heap.size w w5 := by rw [← hw5]; exact belowRow hbel (Nat.le_refl _) _
        replace hlt : w.heap.size + 1 < w5.heap.size := by rw [← hw5, setRow_size]; exact hlt
        clear hw5
        try simp only [Act.put]
        refine take1 (i := 11) (d := some 10) (v := ?_) rfl rfl (by kernel_rfl) (by kernel_rfl) (by kernel_rfl) (fun _ _ _ h => h) (Or.inl ⟨by rfl, ?_⟩) ?_
        rotate_left
        · intro w; first | (go_simp; done) | (go_simp; with_reducible rfl)
        simp only [Act.put, List.setIfInBounds_toArray, List.set_cons_zero, List.set_cons_succ]
        refine take1 (i := 12) (d := some 7) (v := ?_) rfl rfl (by kernel_rfl) (by kernel_rfl) (by kernel_rfl) (fun _ _ _ h => h) (Or.inl ⟨by rfl, ?_⟩) ?_
        rotate_left
        · intro w; first | (go_simp; done) | (go_simp; with_reducible rfl)
        simp only [Act.put, List.setIfInBounds_toArray, List.set_cons_zero, List.set_cons_succ]
        refine wpAny_done (by kernel_rfl) ?_ _
        by_cases h0 : stepE y a = 0
        rotate_left
        · have hb := ne0 h0
          have HF := Lib.hid (qr_fin HE.out (HR.out.symm.trans (runQ_err hjl (by rw [HA.out]; exact h0))))
          rw [HA.out] at HF
          clear h0
          go_upto_region 16 with fail
          go_wp2_with (first | (refine wpList_load_row rfl 32 _ rfl w.heap.size rfl 32 _ (0, 0) _ HX.out Try.underlying32 rfl (by kernel_rfl) ?_) | (refine wpList_store_row rfl 32 _ _ rfl (w.heap.size + 1) _ rfl rfl 32 z HZ.out (by kernel_rfl) hzs (dc_one _ _ _ _ _ _ _) ?_))
          have hbz := belowRow hbel (Nat.le_succ w.heap.size) (#[Value.int IntKind.i64 (Dv.I (stepX y a)), Value.int IntKind.i64 (Dv.S (stepX y a)), Value.slice A (Dv.nx (stepX y a)).length c, Value.slice B (Dv.out (stepX y a)).length d, Value.int IntKind.i64 (Dv.st (stepX y a)), Value.bool (Dv.rdy (stepX y a)), Value.slice C (Dv.step (stepX y a)).length e, Value.int IntKind.i64 (Dv.rs (stepX y a)), Value.int IntKind.i64 (Dv.lost (stepX y a)), Value.int IntKind.i64 (Dv.wrong (stepX y a)), Value.int IntKind.i64 (Dv.crash (stepX y a)), Value.int IntKind.u64 (Dv.seed (stepX y a)), Value.int IntKind.i64 (Dv.steps (stepX y a)), Value.int IntKind.i64 (Dv.resets (stepX y a)), Value.int IntKind.i64 (Dv.time (stepX y a))])
          refine ret_d3 (RowD.put HZ.out (stepX y a) A c B d C e) rfl rfl rfl ⟨⟨A, c, B, d, C, e, none, 0, by rw [HF.out.1, HF.out.2.1, HF.out.2.2]; rfl, ?_, ?_⟩, hbz⟩
          · rw [HF.out.2.1]
            exact (HM.out.keep hbz).same (HS.out.stepX a)
          · rw [HF.out.2.2]; exact RdK.nil
        have H0 := Lib.hid h0
        have hlo := stepO_lo HP.out.ok h0
        rw [h0]
        clear h0
        generalize hO : stepO y a = o at hlo
        have HO2 := Lib.hid hO
        clear hO
        by_cases h1 : o = -1
        · have HF := Lib.hid (qr_fin HE.out (HR.out.symm.trans (runQ_neg hjl (by rw [HA.out]; exact H0.out) (by rw [HA.out, HO2.out]; omega))))
          rw [HA.out] at HF
          subst h1
          go_upto_region 18 with fail
          go_wp2_with (first | (refine wpList_load_row rfl 32 _ rfl w.heap.size rfl 32 _ (0, 0) _ HX.out Try.underlying32 rfl (by kernel_rfl) ?_) | (refine wpList_store_row rfl 32 _ _ rfl (w.heap.size + 1) _ rfl rfl 32 z HZ.out (by kernel_rfl) hzs (dc_one _ _ _ _ _ _ _) ?_))
          have hbz := belowRow hbel (Nat.le_succ w.heap.size) (#[Value.int IntKind.i64 (Dv.I (stepX y a)), Value.int IntKind.i64 (Dv.S (stepX y a)), Value.slice A (Dv.nx (stepX y a)).length c, Value.slice B (Dv.out (stepX y a)).length d, Value.int IntKind.i64 (Dv.st (stepX y a)), Value.bool (Dv.rdy (stepX y a)), Value.slice C (Dv.step (stepX y a)).length e, Value.int IntKind.i64 (Dv.rs (stepX y a)), Value.int IntKind.i64 (Dv.lost (stepX y a)), Value.int IntKind.i64 (Dv.wrong (stepX y a)), Value.int IntKind.i64 (Dv.crash (stepX y a)), Value.int IntKind.u64 (Dv.seed (stepX y a)), Value.int IntKind.i64 (Dv.steps (stepX y a)), Value.int IntKind.i64 (Dv.resets (stepX y a)), Value.int IntKind.i64 (Dv.time (stepX y a))])
          refine ret_d3 (RowD.put HZ.out (stepX y a) A c B d C e) rfl rfl rfl ⟨⟨A, c, B, d, C, e, none, 0, by rw [HF.out.1, HF.out.2.1, HF.out.2.2]; rfl, ?_, ?_⟩, hbz⟩
          · rw [HF.out.2.1]
            exact (HM.out.keep hbz).same (HS.out.stepX a)
          · rw [HF.out.2.2]; exact RdK.nil
        have hne : (o == -1) = false := by simpa using h1
        have hc5 := HX.out.box.c5
        by_cases hrd : (stepX y a).rdy = false
        · rw [hrd] at hc5
          by_cases h2 : acc.length + 1 < ws.length
          · have HF := Lib.hid (qr_fin HE.out (HR.out.symm.trans (runQ_rdy hjl (by rw [HA.out]; exact H0.out) (by rw [HA.out]; exact hrd) h2)))
            rw [HA.out] at HF
            clear hrd
            have h3 : (acc.length : Int) < (ws.length : Int) - 1 := by omega
            go_upto_region 18 with fail
            go_wp2_with (first | (refine wpList_load_row rfl 32 _ rfl w.heap.size rfl 32 _ (0, 0) _ HX.out Try.underlying32 rfl (by kernel_rfl) ?_) | (refine wpList_store_row rfl 32 _ _ rfl (w.heap.size + 1) _ rfl rfl 32 z HZ.out (by kernel_rfl) hzs (dc_one _ _ _ _ _ _ _) ?_))
            have hbz := belowRow hbel (Nat.le_succ w.heap.size) (#[Value.int IntKind.i64 (Dv.I (stepX y a)), Value.int IntKind.i64 (Dv.S (stepX y a)), Value.slice A (Dv.nx (stepX y a)).length c, Value.slice B (Dv.out (stepX y a)).length d, Value.int IntKind.i64 (Dv.st (stepX y a)), Value.bool (Dv.rdy (stepX y a)), Value.slice C (Dv.step (stepX y a)).length e, Value.int IntKind.i64 (Dv.rs (stepX y a)), Value.int IntKind.i64 (Dv.lost (stepX y a)), Value.int IntKind.i64 (Dv.wrong (stepX y a)), Value.int IntKind.i64 (Dv.crash (stepX y a)), Value.int IntKind.u64 (Dv.seed (stepX y a)), Value.int IntKind.i64 (Dv.steps (stepX y a)), Value.int IntKind.i64 (Dv.resets (stepX y a)), Value.int IntKind.i64 (Dv.time (stepX y a))])
            refine ret_d3 (RowD.put HZ.out (stepX y a) A c B d C e) rfl rfl rfl ⟨⟨A, c, B, d, C, e, none, 0, by rw [HF.out.1, HF.out.2.1, HF.out.2.2]; rfl, ?_, ?_⟩, hbz⟩
            · rw [HF.out.2.1]
              exact (HM.out.keep hbz).same (HS.out.stepX a)
            · rw [HF.out.2.2]; exact RdK.nil
          · clear hrd
            have h3 : ¬ (acc.length : Int) < (ws.length : Int) - 1 := by omega
            have HF := Lib.hid (HR.out.symm.trans (runQ_go hjl (by rw [HA.out]; exact H0.out) (by rw [HA.out, HO2.out]; omega) (by rw [HA.out]; exact .inr h2)))
            have hs5 : w.heap.size + 2 ≤ w5.heap.size := hlt
            go_wp2_with (at_builtin; refine app1 rfl (.tmp 70) (.tmp 72) 25 3 _ _ rfl Try.underlying25 info3 rfl (by decide) rfl rfl HO.out rfl (by omega) hs5 ?_; intro v' w6 hown' hb' hsz'; obtain ⟨G5, g5, rfl⟩ := own_slice hown'; have HB6 := Lib.hid hb'; clear hb')
            go_roundw
            case rel =>
              have hb6 := HB6.out (w.heap.size + 2) _ (Nat.le_refl _) (Below.refl _ _)
              refine ⟨G5, g5, acc ++ [o], stepX y a, by simp, by simp, by simp; omega, Lib.hid ⟨?_, HP.out.stepX a, HS.out.stepX a, HX.out.keep (by omega) hb6, (hb6.block _ (by omega)).trans HZ.out, ?_, HB6.out _ _ (by omega) hbel, by omega⟩⟩
              · rw [HF.out, HA.out, HO2.out, List.length_append]; rfl
              · rw [List.map_append, List.length_append]; exact hown'
            case measure => first | (simp [intOf]; done) | (simp [intOf]; omega)
        replace hrd : (stepX y a).rdy = true := by simpa using hrd
        rw [hrd] at hc5
        have HRd := Lib.hid hrd
        clear hrd
        have HF := Lib.hid (HR.out.symm.trans (runQ_go hjl (by rw [HA.out]; exact H0.out) (by rw [HA.out, HO2.out]; omega) (by rw [HA.out]; exact .inl HRd.out)))
        have hs5 : w.heap.size + 2 ≤ w5.heap.size := hlt
        go_wp2_with (at_builtin; refine app1 rfl (.tmp 70) (.tmp 72) 25 3 _ _ rfl Try.underlying25 info3 rfl (by decide) rfl rfl HO.out rfl (by omega) hs5 ?_; intro v' w6 hown' hb' hsz'; obtain ⟨G5, g5, rfl⟩ := own_slice hown'; have HB6 := Lib.hid hb'; clear hb')
        go_roundw
        case rel =>
          have hb6 := HB6.out (w.heap.size + 2) _ (Nat.le_refl _) (Below.refl _ _)
          refine ⟨G5, g5, acc ++ [o], stepX y a, by simp, by simp, by simp; omega, Lib.hid ⟨?_, HP.out.stepX a, HS.out.stepX a, HX.out.keep (by omega) hb6, (hb6.block _ (by omega)).trans HZ.out, ?_, HB6.out _ _ (by omega) hbel, by omega⟩⟩
          · rw [HF.out, HA.out, HO2.out, List.length_append]; rfl
          · rw [List.map_append, List.length_append]; exact hown'
        case measure => first | (simp [intOf]; done) | (simp [intOf]; omega)
    · have he : acc.length = ws.length := by omega
      have hfe : runQ y acc (ws.drop acc.length) = (y, acc, 0) := by rw [he]; exact runQ_end _ _ _
      have HF := Lib.hid (qr_fin HE.out (HQ.out.run.symm.trans hfe))
      clear he hfe
      go_upto_region 20 with fail
      go_wp2_with (first | (refine wpList_load_row rfl 32 _ rfl w.heap.size rfl 32 _ (0, 0) _ HQ.out.row Try.underlying32 rfl (by kernel_rfl) ?_) | (refine wpList_store_row rfl 32 _ _ rfl (w.heap.size + 1) _ rfl rfl 32 z HQ.out.zer (by kernel_rfl) hzs (dc_one _ _ _ _ _ _ _) ?_))
      have hbz := belowRow HQ.out.bel (Nat.le_succ w.heap.size) (#[Value.int IntKind.i64 (Dv.I y), Value.int IntKind.i64 (Dv.S y), Value.slice A (Dv.nx y).length c, Value.slice B (Dv.out y).length d, Value.int IntKind.i64 (Dv.st y), Value.bool (Dv.rdy y), Value.slice C (Dv.step y).length e, Value.int IntKind.i64 (Dv.rs y), Value.int IntKind.i64 (Dv.lost y), Value.int IntKind.i64 (Dv.wrong y), Value.int IntKind.i64 (Dv.crash y), Value.int IntKind.u64 (Dv.seed y), Value.int IntKind.i64 (Dv.steps y), Value.int IntKind.i64 (Dv.resets y), Value.int IntKind.i64 (Dv.time y)])
      refine ret_d3 (RowD.put HQ.out.zer y A c B d C e) rfl rfl rfl ⟨⟨A, c, B, d, C, e, G, g, by rw [HF.out.1, HF.out.2.1, HF.out.2.2]; rfl, ?_, ?_⟩, hbz⟩
      · rw [HF.out.2.1]
        exact (HM.out.keep hbz).same HQ.out.same
      · rw [HF.out.2.2]
        exact (own_rd (ownsRow_setRow HQ.out.own (by omega) _) (by omega)).2
end Go.Proofs.Ytpoppadihbgbgaa
