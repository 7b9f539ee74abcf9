/- Devices: copied. -/
import Derived.Test.YtpoppadihbgbgaaDev7
namespace Go.Proofs.Ytpoppadihbgbgaa
open Go.RowKit

/-- behind the two rows: what the region leaves -/
def CopR (w : World) (z : Array Value) (x : Dv) (C : Option Addr) (e : Nat) (wx : World) : Prop := ∃ A1 g1 A2 g2, RowD wx w.heap.size 32 x A1 g1 A2 g2 C e ∧ wx.heap[w.heap.size + 1]? = some (.cells z 32) ∧ OwnM wx (w.heap.size + 2) 25 3 (.slice A1 x.nx.length g1) x.nx ∧ OwnM wx (w.heap.size + 2) 25 3 (.slice A2 x.out.length g2) x.out ∧ Below w.heap.size w wx ∧ w.heap.size + 1 < wx.heap.size
set_option maxRecDepth 100000 in
set_option maxHeartbeats 4000000 in
theorem copied_p (x : Dv) (A B C : Option Addr) (c d e : Nat) (w : World) (h : RdD w A B C x) (hn : x.nx.length ≤ 10000) (ho : x.out.length ≤ 10000) (hs : x.step.length ≤ 1000000)
    (hr : ∀ i, i < x.nx.length → (x.nx.getD i []).length ≤ 1000000) (hr2 : ∀ i, i < x.out.length → (x.out.getD i []).length ≤ 1000000) :
    Calls Try.prog 30 #[(Value.agg #[Value.int IntKind.i64 (Dv.I x), Value.int IntKind.i64 (Dv.S x), Value.slice A (Dv.nx x).length c, Value.slice B (Dv.out x).length d, Value.int IntKind.i64 (Dv.st x), Value.bool (Dv.rdy x), Value.slice C (Dv.step x).length e, Value.int IntKind.i64 (Dv.rs x), Value.int IntKind.i64 (Dv.lost x), Value.int IntKind.i64 (Dv.wrong x), Value.int IntKind.i64 (Dv.crash x), Value.int IntKind.u64 (Dv.seed x), Value.int IntKind.i64 (Dv.steps x), Value.int IntKind.i64 (Dv.resets x), Value.int IntKind.i64 (Dv.time x)])] w fun r w' => (∃ A' c' B' d' C' e', r = .returned ((Value.agg #[Value.int IntKind.i64 (Dv.I x), Value.int IntKind.i64 (Dv.S x), Value.slice A' (Dv.nx x).length c', Value.slice B' (Dv.out x).length d', Value.int IntKind.i64 (Dv.st x), Value.bool (Dv.rdy x), Value.slice C' (Dv.step x).length e', Value.int IntKind.i64 (Dv.rs x), Value.int IntKind.i64 (Dv.lost x), Value.int IntKind.i64 (Dv.wrong x), Value.int IntKind.i64 (Dv.crash x), Value.int IntKind.u64 (Dv.seed x), Value.int IntKind.i64 (Dv.steps x), Value.int IntKind.i64 (Dv.resets x), Value.int IntKind.i64 (Dv.time x)])) ∧ RdU w' w.heap.size A' B' C' x) ∧ Below w.heap.size w w' := by
  have HM := Lib.hid h
  have HR1 := Lib.hid hr
  have HR2 := Lib.hid hr2
  clear h hr hr2
  go_enter Try.func30, Try.ntmps30
  go_wp2_with fail
  obtain ⟨z, hz⟩ : ∃ z : Array Value, z = #[Value.int IntKind.i64 0, Value.int IntKind.i64 0, Value.slice none 0 0, Value.slice none 0 0,
          Value.int IntKind.i64 0, Value.bool false, Value.slice none 0 0, Value.int IntKind.i64 0,
          Value.int IntKind.i64 0, Value.int IntKind.i64 0, Value.int IntKind.i64 0, Value.int IntKind.u64 0,
          Value.int IntKind.i64 0, Value.int IntKind.i64 0, Value.int IntKind.i64 0] := ⟨_, rfl⟩
  rw [← hz]
  have hzs : z.size = 15 := by rw [hz]; rfl
  clear hz
  obtain ⟨w0, hw0⟩ : ∃ w0, w0 = (w.alloc (.cells (#[Value.int IntKind.i64 (Dv.I x), Value.int IntKind.i64 (Dv.S x), Value.slice A (Dv.nx x).length c, Value.slice B (Dv.out x).length d, Value.int IntKind.i64 (Dv.st x), Value.bool (Dv.rdy x), Value.slice C (Dv.step x).length e, Value.int IntKind.i64 (Dv.rs x), Value.int IntKind.i64 (Dv.lost x), Value.int IntKind.i64 (Dv.wrong x), Value.int IntKind.i64 (Dv.crash x), Value.int IntKind.u64 (Dv.seed x), Value.int IntKind.i64 (Dv.steps x), Value.int IntKind.i64 (Dv.resets x), Value.int IntKind.i64 (Dv.time x)]) 32)).alloc (.cells z 32) := ⟨_, rfl⟩
  have HX : Hid (RowD w0 w.heap.size 32 x A c B d C e) := Lib.hid (by rw [hw0]; unfold RowD; rw [heap_alloc_old _ _ (size_new _ _), heap_alloc_new])
  have HZ : Hid (w0.heap[w.heap.size + 1]? = some (.cells z 32)) := Lib.hid (by rw [hw0, ← size_alloc w (.cells (#[Value.int IntKind.i64 (Dv.I x), Value.int IntKind.i64 (Dv.S x), Value.slice A (Dv.nx x).length c, Value.slice B (Dv.out x).length d, Value.int IntKind.i64 (Dv.st x), Value.bool (Dv.rdy x), Value.slice C (Dv.step x).length e, Value.int IntKind.i64 (Dv.rs x), Value.int IntKind.i64 (Dv.lost x), Value.int IntKind.i64 (Dv.wrong x), Value.int IntKind.i64 (Dv.crash x), Value.int IntKind.u64 (Dv.seed x), Value.int IntKind.i64 (Dv.steps x), Value.int IntKind.i64 (Dv.resets x), Value.int IntKind.i64 (Dv.time x)]) 32), heap_alloc_new])
  have hbel : Below w.heap.size w w0 := by rw [hw0]; exact ((Below.refl _ _).alloc (Nat.le_refl _) _).alloc (by rw [size_alloc]; omega) _
  have hlt : w.heap.size + 1 < w0.heap.size := by rw [hw0, size_alloc, size_alloc]; omega
  rw [← hw0]
  clear hw0
  go_cut [] (fun wx => CopR w z x C e wx)
  case first =>
    refine wp_region_any (by kernel_rfl) ?_
    change wpAny _ _ _ _ _ _ _ (World.drew _)
    refine take1 (i := 0) (d := some 3) (v := ?_) rfl rfl (by kernel_rfl) (by kernel_rfl) (by kernel_rfl) (fun _ _ _ h => h) (Or.inl ⟨by rfl, ?_⟩) ?_
    rotate_left
    · intro w; first | (go_simp; done) | (go_simp; with_reducible rfl)
    simp only [Act.put, List.setIfInBounds_toArray, List.set_cons_zero, List.set_cons_succ]
    refine take1 (i := 1) (d := some 4) (v := ?_) rfl rfl (by kernel_rfl) (by kernel_rfl) (by kernel_rfl) (fun _ _ _ h => h) (Or.inl ⟨by rfl, ?_⟩) ?_
    rotate_left
    · intro w; first | (go_simp; done) | (go_simp; with_reducible rfl)
    simp only [Act.put, List.setIfInBounds_toArray, List.set_cons_zero, List.set_cons_succ]
    refine take1 (i := 4) (d := some 7) (v := ?_) rfl rfl (by kernel_rfl) (by kernel_rfl) (by kernel_rfl) (fun _ _ _ h => h) (Or.inl ⟨by rfl, ?_⟩) ?_
    rotate_left
    · intro w; first | (go_simp; done) | (go_simp; with_reducible rfl)
    simp only [Act.put, List.setIfInBounds_toArray, List.set_cons_zero, List.set_cons_succ]
    refine take1 (i := 5) (d := some 8) (v := ?_) rfl rfl (by kernel_rfl) (by kernel_rfl) (by kernel_rfl) (fun _ _ _ h => h) (Or.inl ⟨by rfl, ?_⟩) ?_
    rotate_left
    · intro w; first | (go_simp; done) | (go_simp; with_reducible rfl)
    simp only [Act.put, List.setIfInBounds_toArray, List.set_cons_zero, List.set_cons_succ]
    obtain ⟨wa, hwa⟩ : ∃ wa, wa = w0.drew := ⟨_, rfl⟩
    replace HX := Lib.hid (show RowD wa w.heap.size 32 x A c B d C e by rw [hwa]; exact HX.out)
    replace HZ := Lib.hid (show wa.heap[w.heap.size + 1]? = some (.cells z 32) by rw [hwa]; exact HZ.out)
    replace hbel : Below w.heap.size w wa := by rw [hwa]; exact hbel.drew
    replace hlt : w.heap.size + 1 < wa.heap.size := by rw [hwa]; exact hlt
    rw [← hwa]
    clear hwa w0
    refine wpAny_ready (rs := [2, 6]) (by kernel_rfl) (by simp) ?_
    refine AllReady.cons rfl (fun K hK => ?_) (AllReady.cons rfl (fun K hK => ?_) AllReady.nil)
    · skip
      try go_simp
      have cc := HX.out.box.c2
      simp only [cc]
      try go_simp
      clear cc
      refine hK _ _ ?_
      clear hK K
      try simp only [Act.put, List.setIfInBounds_toArray, List.set_cons_zero, List.set_cons_succ]
      refine wpAny_ready (rs := [3, 6]) (by kernel_rfl) (by simp) ?_
      refine AllReady.cons rfl (fun K hK => ?_) (AllReady.cons rfl (fun K hK => ?_) AllReady.nil)
      · skip
        try go_simp
        refine (rows_p A c x.nx wa (HM.out.keep hbel).nx hn HR1.out).mono ?_
        rintro r w1 ⟨A1, g1, rfl, ho1, hb1⟩
        refine hK _ _ ?_
        clear hK K
        try simp only [Act.put, List.setIfInBounds_toArray, List.set_cons_zero, List.set_cons_succ]
        have HO1 := Lib.hid (own1 ho1 (show w.heap.size + 2 ≤ _ by omega))
        replace HX := Lib.hid (HX.out.keep (N := wa.heap.size) (by omega) hb1)
        replace HZ := Lib.hid ((hb1.block _ hlt).trans HZ.out)
        replace hbel := below_seq hbel hb1
        replace hlt := Nat.lt_of_lt_of_le hlt hb1.size
        clear hb1 ho1 wa
        rename World => wa
        refine wpAny_ready (rs := [6]) (by kernel_rfl) (by simp) ?_
        refine AllReady.cons rfl (fun K hK => ?_) AllReady.nil
        try go_simp
        have cc := HX.out.box.c3
        simp only [cc]
        try go_simp
        clear cc
        refine hK _ _ ?_
        clear hK K
        try simp only [Act.put, List.setIfInBounds_toArray, List.set_cons_zero, List.set_cons_succ]
        refine take1 (i := 8) (d := some 11) (v := ?_) rfl rfl (by kernel_rfl) (by kernel_rfl) (by kernel_rfl) (fun _ _ _ h => h) (Or.inl ⟨by rfl, ?_⟩) ?_
        rotate_left
        · intro w; first | (go_simp; done) | (go_simp; with_reducible rfl)
        simp only [Act.put, List.setIfInBounds_toArray, List.set_cons_zero, List.set_cons_succ]
        refine take1 (i := 9) (d := some 12) (v := ?_) rfl rfl (by kernel_rfl) (by kernel_rfl) (by kernel_rfl) (fun _ _ _ h => h) (Or.inl ⟨by rfl, ?_⟩) ?_
        rotate_left
        · intro w; first | (go_simp; done) | (go_simp; with_reducible rfl)
        simp only [Act.put, List.setIfInBounds_toArray, List.set_cons_zero, List.set_cons_succ]
        refine wpAny_ready (rs := [7]) (by kernel_rfl) (by simp) ?_
        refine AllReady.cons rfl (fun K hK => ?_) AllReady.nil
        try go_simp
        refine (rows_p B d x.out wa (HM.out.keep hbel).out ho HR2.out).mono ?_
        rintro r w1 ⟨A2, g2, rfl, ho1, hb1⟩
        refine hK _ _ ?_
        clear hK K
        try simp only [Act.put, List.setIfInBounds_toArray, List.set_cons_zero, List.set_cons_succ]
        have HO2 := Lib.hid (own1 ho1 (show w.heap.size + 2 ≤ _ by omega))
        replace HO1 := Lib.hid (HO1.out.keep hb1)
        replace HX := Lib.hid (HX.out.keep (N := wa.heap.size) (by omega) hb1)
        replace HZ := Lib.hid ((hb1.block _ hlt).trans HZ.out)
        replace hbel := below_seq hbel hb1
        replace hlt := Nat.lt_of_lt_of_le hlt hb1.size
        clear hb1 ho1 wa
        rename World => wa
        refine wpAny_ready (rs := [10]) (by kernel_rfl) (by simp) ?_
        refine AllReady.cons rfl (fun K hK => ?_) AllReady.nil
        try go_simp
        have cc := HX.out.box.c2
        have ff := HX.out.fro 2
        simp only [cc, ff]
        try go_simp
        clear cc ff
        refine hK _ _ ?_
        clear hK K
        try simp only [Act.put, List.setIfInBounds_toArray, List.set_cons_zero, List.set_cons_succ]
        obtain ⟨wb, hwb⟩ : ∃ wb, wb = wa.setCell ⟨w.heap.size, 2, none⟩ (.slice A1 x.nx.length g1) := ⟨_, rfl⟩
        replace HX := Lib.hid (show RowD wb w.heap.size 32 x A1 g1 B d C e by rw [hwb]; exact HX.out.setA A1 g1)
        replace HZ := Lib.hid (show wb.heap[w.heap.size + 1]? = some (.cells z 32) by rw [hwb, heap_setCell_other _ _ _ _ (by simp)]; exact HZ.out)
        replace hbel : Below w.heap.size w wb := by rw [hwb]; exact hbel.setCell (Nat.le_refl _) _
        replace hlt : w.heap.size + 1 < wb.heap.size := by rw [hwb, size_setCell]; exact hlt
        replace HO1 : Hid (OwnM wb (w.heap.size + 2) 25 3 (.slice A1 x.nx.length g1) x.nx) := Lib.hid (by rw [hwb]; exact HO1.out.set (by omega) _)
        replace HO2 : Hid (OwnM wb (w.heap.size + 2) 25 3 (.slice A2 x.out.length g2) x.out) := Lib.hid (by rw [hwb]; exact HO2.out.set (by omega) _)
        rw [← hwb]
        clear hwb wa
        rename World => wa
        refine take1 (i := 11) (d := some 13) (v := ?_) rfl rfl (by kernel_rfl) (by kernel_rfl) (by kernel_rfl) (fun _ _ _ h => h) (Or.inl ⟨by rfl, ?_⟩) ?_
        rotate_left
        · intro w; first | (go_simp; done) | (go_simp; with_reducible rfl)
        simp only [Act.put, List.setIfInBounds_toArray, List.set_cons_zero, List.set_cons_succ]
        refine take1 (i := 12) (d := some 14) (v := ?_) rfl rfl (by kernel_rfl) (by kernel_rfl) (by kernel_rfl) (fun _ _ _ h => h) (Or.inl ⟨by rfl, ?_⟩) ?_
        rotate_left
        · intro w; first | (go_simp; done) | (go_simp; with_reducible rfl)
        simp only [Act.put, List.setIfInBounds_toArray, List.set_cons_zero, List.set_cons_succ]
        refine wpAny_ready (rs := [13]) (by kernel_rfl) (by simp) ?_
        refine AllReady.cons rfl (fun K hK => ?_) AllReady.nil
        try go_simp
        have cc := HX.out.box.c3
        have ff := HX.out.fro 3
        simp only [cc, ff]
        try go_simp
        clear cc ff
        refine hK _ _ ?_
        clear hK K
        try simp only [Act.put, List.setIfInBounds_toArray, List.set_cons_zero, List.set_cons_succ]
        obtain ⟨wb, hwb⟩ : ∃ wb, wb = wa.setCell ⟨w.heap.size, 3, none⟩ (.slice A2 x.out.length g2) := ⟨_, rfl⟩
        replace HX := Lib.hid (show RowD wb w.heap.size 32 x A1 g1 A2 g2 C e by rw [hwb]; exact HX.out.setB A2 g2)
        replace HZ := Lib.hid (show wb.heap[w.heap.size + 1]? = some (.cells z 32) by rw [hwb, heap_setCell_other _ _ _ _ (by simp)]; exact HZ.out)
        replace hbel : Below w.heap.size w wb := by rw [hwb]; exact hbel.setCell (Nat.le_refl _) _
        replace hlt : w.heap.size + 1 < wb.heap.size := by rw [hwb, size_setCell]; exact hlt
        replace HO1 : Hid (OwnM wb (w.heap.size + 2) 25 3 (.slice A1 x.nx.length g1) x.nx) := Lib.hid (by rw [hwb]; exact HO1.out.set (by omega) _)
        replace HO2 : Hid (OwnM wb (w.heap.size + 2) 25 3 (.slice A2 x.out.length g2) x.out) := Lib.hid (by rw [hwb]; exact HO2.out.set (by omega) _)
        rw [← hwb]
        clear hwb wa
        rename World => wa
        refine wpAny_done (by kernel_rfl) ?_ _
        go_wp2_with fail
        go_meet
        exact ⟨A1, g1, A2, g2, HX.out, HZ.out, HO1.out, HO2.out, hbel, hlt⟩
      · skip
        try go_simp
        have cc := HX.out.box.c3
        simp only [cc]
        try go_simp
        clear cc
        refine hK _ _ ?_
        clear hK K
        try simp only [Act.put, List.setIfInBounds_toArray, List.set_cons_zero, List.set_cons_succ]
        refine wpAny_ready (rs := [3]) (by kernel_rfl) (by simp) ?_
        refine AllReady.cons rfl (fun K hK => ?_) AllReady.nil
        try go_simp
        refine (rows_p A c x.nx wa (HM.out.keep hbel).nx hn HR1.out).mono ?_
        rintro r w1 ⟨A1, g1, rfl, ho1, hb1⟩
        refine hK _ _ ?_
        clear hK K
        try simp only [Act.put, List.setIfInBounds_toArray, List.set_cons_zero, List.set_cons_succ]
        have HO1 := Lib.hid (own1 ho1 (show w.heap.size + 2 ≤ _ by omega))
        replace HX := Lib.hid (HX.out.keep (N := wa.heap.size) (by omega) hb1)
        replace HZ := Lib.hid ((hb1.block _ hlt).trans HZ.out)
        replace hbel := below_seq hbel hb1
        replace hlt := Nat.lt_of_lt_of_le hlt hb1.size
        clear hb1 ho1 wa
        rename World => wa
        refine take1 (i := 8) (d := some 11) (v := ?_) rfl rfl (by kernel_rfl) (by kernel_rfl) (by kernel_rfl) (fun _ _ _ h => h) (Or.inl ⟨by rfl, ?_⟩) ?_
        rotate_left
        · intro w; first | (go_simp; done) | (go_simp; with_reducible rfl)
        simp only [Act.put, List.setIfInBounds_toArray, List.set_cons_zero, List.set_cons_succ]
        refine take1 (i := 9) (d := some 12) (v := ?_) rfl rfl (by kernel_rfl) (by kernel_rfl) (by kernel_rfl) (fun _ _ _ h => h) (Or.inl ⟨by rfl, ?_⟩) ?_
        rotate_left
        · intro w; first | (go_simp; done) | (go_simp; with_reducible rfl)
        simp only [Act.put, List.setIfInBounds_toArray, List.set_cons_zero, List.set_cons_succ]
        refine wpAny_ready (rs := [7]) (by kernel_rfl) (by simp) ?_
        refine AllReady.cons rfl (fun K hK => ?_) AllReady.nil
        try go_simp
        refine (rows_p B d x.out wa (HM.out.keep hbel).out ho HR2.out).mono ?_
        rintro r w1 ⟨A2, g2, rfl, ho1, hb1⟩
        refine hK _ _ ?_
        clear hK K
        try simp only [Act.put, List.setIfInBounds_toArray, List.set_cons_zero, List.set_cons_succ]
        have HO2 := Lib.hid (own1 ho1 (show w.heap.size + 2 ≤ _ by omega))
        replace HO1 := Lib.hid (HO1.out.keep hb1)
        replace HX := Lib.hid (HX.out.keep (N := wa.heap.size) (by omega) hb1)
        replace HZ := Lib.hid ((hb1.block _ hlt).trans HZ.out)
        replace hbel := below_seq hbel hb1
        replace hlt := Nat.lt_of_lt_of_le hlt hb1.size
        clear hb1 ho1 wa
        rename World => wa
        refine wpAny_ready (rs := [10]) (by kernel_rfl) (by simp) ?_
        refine AllReady.cons rfl (fun K hK => ?_) AllReady.nil
        try go_simp
        have cc := HX.out.box.c2
        have ff := HX.out.fro 2
        simp only [cc, ff]
        try go_simp
        clear cc ff
        refine hK _ _ ?_
        clear hK K
        try simp only [Act.put, List.setIfInBounds_toArray, List.set_cons_zero, List.set_cons_succ]
        obtain ⟨wb, hwb⟩ : ∃ wb, wb = wa.setCell ⟨w.heap.size, 2, none⟩ (.slice A1 x.nx.length g1) := ⟨_, rfl⟩
        replace HX := Lib.hid (show RowD wb w.heap.size 32 x A1 g1 B d C e by rw [hwb]; exact HX.out.setA A1 g1)
        replace HZ := Lib.hid (show wb.heap[w.heap.size + 1]? = some (.cells z 32) by rw [hwb, heap_setCell_other _ _ _ _ (by simp)]; exact HZ.out)
        replace hbel : Below w.heap.size w wb := by rw [hwb]; exact hbel.setCell (Nat.le_refl _) _
        replace hlt : w.heap.size + 1 < wb.heap.size := by rw [hwb, size_setCell]; exact hlt
        replace HO1 : Hid (OwnM wb (w.heap.size + 2) 25 3 (.slice A1 x.nx.length g1) x.nx) := Lib.hid (by rw [hwb]; exact HO1.out.set (by omega) _)
        replace HO2 : Hid (OwnM wb (w.heap.size + 2) 25 3 (.slice A2 x.out.length g2) x.out) := Lib.hid (by rw [hwb]; exact HO2.out.set (by omega) _)
        rw [← hwb]
        clear hwb wa
        rename World => wa
        refine take1 (i := 11) (d := some 13) (v := ?_) rfl rfl (by kernel_rfl) (by kernel_rfl) (by kernel_rfl) (fun _ _ _ h => h) (Or.inl ⟨by rfl, ?_⟩) ?_
        rotate_left
        · intro w; first | (go_simp; done) | (go_simp; with_reducible rfl)
        simp only [Act.put, List.setIfInBounds_toArray, List.set_cons_zero, List.set_cons_succ]
        refine take1 (i := 12) (d := some 14) (v := ?_) rfl rfl (by kernel_rfl) (by kernel_rfl) (by kernel_rfl) (fun _ _ _ h => h) (Or.inl ⟨by rfl, ?_⟩) ?_
        rotate_left
        · intro w; first | (go_simp; done) | (go_simp; with_reducible rfl)
        simp only [Act.put, List.setIfInBounds_toArray, List.set_cons_zero, List.set_cons_succ]
        refine wpAny_ready (rs := [13]) (by kernel_rfl) (by simp) ?_
        refine AllReady.cons rfl (fun K hK => ?_) AllReady.nil
        try go_simp
        have cc := HX.out.box.c3
        have ff := HX.out.fro 3
        simp only [cc, ff]
        try go_simp
        clear cc ff
        refine hK _ _ ?_
        clear hK K
        try simp only [Act.put, List.setIfInBounds_toArray, List.set_cons_zero, List.set_cons_succ]
        obtain ⟨wb, hwb⟩ : ∃ wb, wb = wa.setCell ⟨w.heap.size, 3, none⟩ (.slice A2 x.out.length g2) := ⟨_, rfl⟩
        replace HX := Lib.hid (show RowD wb w.heap.size 32 x A1 g1 A2 g2 C e by rw [hwb]; exact HX.out.setB A2 g2)
        replace HZ := Lib.hid (show wb.heap[w.heap.size + 1]? = some (.cells z 32) by rw [hwb, heap_setCell_other _ _ _ _ (by simp)]; exact HZ.out)
        replace hbel : Below w.heap.size w wb := by rw [hwb]; exact hbel.setCell (Nat.le_refl _) _
        replace hlt : w.heap.size + 1 < wb.heap.size := by rw [hwb, size_setCell]; exact hlt
        replace HO1 : Hid (OwnM wb (w.heap.size + 2) 25 3 (.slice A1 x.nx.length g1) x.nx) := Lib.hid (by rw [hwb]; exact HO1.out.set (by omega) _)
        replace HO2 : Hid (OwnM wb (w.heap.size + 2) 25 3 (.slice A2 x.out.length g2) x.out) := Lib.hid (by rw [hwb]; exact HO2.out.set (by omega) _)
        rw [← hwb]
        clear hwb wa
        rename World => wa
        refine wpAny_done (by kernel_rfl) ?_ _
        go_wp2_with fail
        go_meet
        exact ⟨A1, g1, A2, g2, HX.out, HZ.out, HO1.out, HO2.out, hbel, hlt⟩
    · skip
      try go_simp
      have cc := HX.out.box.c3
      simp only [cc]
      try go_simp
      clear cc
      refine hK _ _ ?_
      clear hK K
      try simp only [Act.put, List.setIfInBounds_toArray, List.set_cons_zero, List.set_cons_succ]
      refine wpAny_ready (rs := [2]) (by kernel_rfl) (by simp) ?_
      refine AllReady.cons rfl (fun K hK => ?_) AllReady.nil
      try go_simp
      have cc := HX.out.box.c2
      simp only [cc]
      try go_simp
      clear cc
      refine hK _ _ ?_
      clear hK K
      try simp only [Act.put, List.setIfInBounds_toArray, List.set_cons_zero, List.set_cons_succ]
      refine wpAny_ready (rs := [3]) (by kernel_rfl) (by simp) ?_
      refine AllReady.cons rfl (fun K hK => ?_) AllReady.nil
      try go_simp
      refine (rows_p A c x.nx wa (HM.out.keep hbel).nx hn HR1.out).mono ?_
      rintro r w1 ⟨A1, g1, rfl, ho1, hb1⟩
      refine hK _ _ ?_
      clear hK K
      try simp only [Act.put, List.setIfInBounds_toArray, List.set_cons_zero, List.set_cons_succ]
      have HO1 := Lib.hid (own1 ho1 (show w.heap.size + 2 ≤ _ by omega))
      replace HX := Lib.hid (HX.out.keep (N := wa.heap.size) (by omega) hb1)
      replace HZ := Lib.hid ((hb1.block _ hlt).trans HZ.out)
      replace hbel := below_seq hbel hb1
      replace hlt := Nat.lt_of_lt_of_le hlt hb1.size
      clear hb1 ho1 wa
      rename World => wa
      refine take1 (i := 8) (d := some 11) (v := ?_) rfl rfl (by kernel_rfl) (by kernel_rfl) (by kernel_rfl) (fun _ _ _ h => h) (Or.inl ⟨by rfl, ?_⟩) ?_
      rotate_left
      · intro w; first | (go_simp; done) | (go_simp; with_reducible rfl)
      simp only [Act.put, List.setIfInBounds_toArray, List.set_cons_zero, List.set_cons_succ]
      refine take1 (i := 9) (d := some 12) (v := ?_) rfl rfl (by kernel_rfl) (by kernel_rfl) (by kernel_rfl) (fun _ _ _ h => h) (Or.inl ⟨by rfl, ?_⟩) ?_
      rotate_left
      · intro w; first | (go_simp; done) | (go_simp; with_reducible rfl)
      simp only [Act.put, List.setIfInBounds_toArray, List.set_cons_zero, List.set_cons_succ]
      refine wpAny_ready (rs := [7]) (by kernel_rfl) (by simp) ?_
      refine AllReady.cons rfl (fun K hK => ?_) AllReady.nil
      try go_simp
      refine (rows_p B d x.out wa (HM.out.keep hbel).out ho HR2.out).mono ?_
      rintro r w1 ⟨A2, g2, rfl, ho1, hb1⟩
      refine hK _ _ ?_
      clear hK K
      try simp only [Act.put, List.setIfInBounds_toArray, List.set_cons_zero, List.set_cons_succ]
      have HO2 := Lib.hid (own1 ho1 (show w.heap.size + 2 ≤ _ by omega))
      replace HO1 := Lib.hid (HO1.out.keep hb1)
      replace HX := Lib.hid (HX.out.keep (N := wa.heap.size) (by omega) hb1)
      replace HZ := Lib.hid ((hb1.block _ hlt).trans HZ.out)
      replace hbel := below_seq hbel hb1
      replace hlt := Nat.lt_of_lt_of_le hlt hb1.size
      clear hb1 ho1 wa
      rename World => wa
      refine wpAny_ready (rs := [10]) (by kernel_rfl) (by simp) ?_
      refine AllReady.cons rfl (fun K hK => ?_) AllReady.nil
      try go_simp
      have cc := HX.out.box.c2
      have ff := HX.out.fro 2
      simp only [cc, ff]
      try go_simp
      clear cc ff
      refine hK _ _ ?_
      clear hK K
      try simp only [Act.put, List.setIfInBounds_toArray, List.set_cons_zero, List.set_cons_succ]
      obtain ⟨wb, hwb⟩ : ∃ wb, wb = wa.setCell ⟨w.heap.size, 2, none⟩ (.slice A1 x.nx.length g1) := ⟨_, rfl⟩
      replace HX := Lib.hid (show RowD wb w.heap.size 32 x A1 g1 B d C e by rw [hwb]; exact HX.out.setA A1 g1)
      replace HZ := Lib.hid (show wb.heap[w.heap.size + 1]? = some (.cells z 32) by rw [hwb, heap_setCell_other _ _ _ _ (by simp)]; exact HZ.out)
      replace hbel : Below w.heap.size w wb := by rw [hwb]; exact hbel.setCell (Nat.le_refl _) _
      replace hlt : w.heap.size + 1 < wb.heap.size := by rw [hwb, size_setCell]; exact hlt
      replace HO1 : Hid (OwnM wb (w.heap.size + 2) 25 3 (.slice A1 x.nx.length g1) x.nx) := Lib.hid (by rw [hwb]; exact HO1.out.set (by omega) _)
      replace HO2 : Hid (OwnM wb (w.heap.size + 2) 25 3 (.slice A2 x.out.length g2) x.out) := Lib.hid (by rw [hwb]; exact HO2.out.set (by omega) _)
      rw [← hwb]
      clear hwb wa
      rename World => wa
      refine take1 (i := 11) (d := some 13) (v := ?_) rfl rfl (by kernel_rfl) (by kernel_rfl) (by kernel_rfl) (fun _ _ _ h => h) (Or.inl ⟨by rfl, ?_⟩) ?_
      rotate_left
      · intro w; first | (go_simp; done) | (go_simp; with_reducible rfl)
      simp only [Act.put, List.setIfInBounds_toArray, List.set_cons_zero, List.set_cons_succ]
      refine take1 (i := 12) (d := some 14) (v := ?_) rfl rfl (by kernel_rfl) (by kernel_rfl) (by kernel_rfl) (fun _ _ _ h => h) (Or.inl ⟨by rfl, ?_⟩) ?_
      rotate_left
      · intro w; first | (go_simp; done) | (go_simp; with_reducible rfl)
      simp only [Act.put, List.setIfInBounds_toArray, List.set_cons_zero, List.set_cons_succ]
      refine wpAny_ready (rs := [13]) (by kernel_rfl) (by simp) ?_
      refine AllReady.cons rfl (fun K hK => ?_) AllReady.nil
      try go_simp
      have cc := HX.out.box.c3
      have ff := HX.out.fro 3
      simp only [cc, ff]
      try go_simp
      clear cc ff
      refine hK _ _ ?_
      clear hK K
      try simp only [Act.put, List.setIfInBounds_toArray, List.set_cons_zero, List.set_cons_succ]
      obtain ⟨wb, hwb⟩ : ∃ wb, wb = wa.setCell ⟨w.heap.size, 3, none⟩ (.slice A2 x.out.length g2) := ⟨_, rfl⟩
      replace HX := Lib.hid (show RowD wb w.heap.size 32 x A1 g1 A2 g2 C e by rw [hwb]; exact HX.out.setB A2 g2)
      replace HZ := Lib.hid (show wb.heap[w.heap.size + 1]? = some (.cells z 32) by rw [hwb, heap_setCell_other _ _ _ _ (by simp)]; exact HZ.out)
      replace hbel : Below w.heap.size w wb := by rw [hwb]; exact hbel.setCell (Nat.le_refl _) _
      replace hlt : w.heap.size + 1 < wb.heap.size := by rw [hwb, size_setCell]; exact hlt
      replace HO1 : Hid (OwnM wb (w.heap.size + 2) 25 3 (.slice A1 x.nx.length g1) x.nx) := Lib.hid (by rw [hwb]; exact HO1.out.set (by omega) _)
      replace HO2 : Hid (OwnM wb (w.heap.size + 2) 25 3 (.slice A2 x.out.length g2) x.out) := Lib.hid (by rw [hwb]; exact HO2.out.set (by omega) _)
      rw [← hwb]
      clear hwb wa
      rename World => wa
      refine wpAny_done (by kernel_rfl) ?_ _
      go_wp2_with fail
      go_meet
      exact ⟨A1, g1, A2, g2, HX.out, HZ.out, HO1.out, HO2.out, hbel, hlt⟩
  case rest =>
    clear HX HZ hbel hlt w0
    obtain ⟨A1, g1, A2, g2, hx, hz, ho1, ho2, hbel, hlt⟩ := hcut
    have c6 := hx.box.c6
    have f6 := hx.fro 6
    have HX := Lib.hid hx
    have HZ := Lib.hid hz
    have HO1 := Lib.hid ho1
    have HO2 := Lib.hid ho2
    clear hx hz ho1 ho2
    go_wp2_with fail
    refine (clone_i C e x.step wc (HM.out.keep hbel).step hs).mono ?_
    rintro r w2 ⟨A3, g3, rfl, ho3, hb⟩
    have HX2 := Lib.hid (HX.out.keep (N := wc.heap.size) (by omega) hb)
    have HZ2 := Lib.hid ((hb.block _ hlt).trans HZ.out)
    have HP1 := Lib.hid (HO1.out.keep hb)
    have HP2 := Lib.hid (HO2.out.keep hb)
    have HP3 := Lib.hid (own_mono ho3 (show w.heap.size + 2 ≤ _ by omega))
    have hbel2 := below_seq hbel hb
    have hlt2 := Nat.lt_of_lt_of_le hlt hb.size
    clear c6 f6 HX HZ HO1 HO2 ho3 hb
    have c6 := HX2.out.box.c6
    have f6 := HX2.out.fro 6
    have HZ3 : Hid ((w2.setCell ⟨w.heap.size, 6, none⟩ (.slice A3 x.step.length g3)).heap[w.heap.size + 1]? = some (.cells z 32)) := Lib.hid (by rw [heap_setCell_other _ _ _ _ (by simp)]; exact HZ2.out)
    go_wp2_with (first | (refine wpList_load_row rfl 32 _ rfl w.heap.size rfl 32 _ (0, 0) _ (HX2.out.setC A3 g3) (by rfl) rfl (by kernel_rfl) ?_) | (refine wpList_store_row rfl 32 _ _ rfl (w.heap.size + 1) _ rfl rfl 32 z HZ3.out (by kernel_rfl) hzs (dc_one _ _ _ _ _ _ _) ?_))
    refine ret_d1 (RowD.put HZ3.out x A1 g1 A2 g2 A3 g3) rfl rfl rfl ⟨⟨A1, g1, A2, g2, A3, g3, rfl, fun w' hk => ⟨?_, ?_, ?_⟩⟩, ?_⟩
    · exact ((((HP1.out.set (by omega) _).setRow (by omega) _).mono (Nat.le_add_right _ _)).up hk).rd (by omega) (fun i hi => Nat.le_trans (HR1.out i hi) (by omega))
    · exact ((((HP2.out.set (by omega) _).setRow (by omega) _).mono (Nat.le_add_right _ _)).up hk).rd (by omega) (fun i hi => Nat.le_trans (HR2.out i hi) (by omega))
    · exact (own_rd (ownsRow_up (own_mono (ownsRow_setRow (ownsRow_setCell_below HP3.out (by show w.heap.size < _; omega) _) (by omega) _) (Nat.le_add_right _ _)) hk) (by omega)).2
    · exact belowRow (hbel2.setCell (Nat.le_refl _) _) (by omega) _
end Go.Proofs.Ytpoppadihbgbgaa
