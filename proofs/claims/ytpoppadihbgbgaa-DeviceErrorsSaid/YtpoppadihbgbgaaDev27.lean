/- DeviceSteps: the walk of the law. -/
import Derived.Test.YtpoppadihbgbgaaDev23
import Derived.Test.YtpoppadihbgbgaaDev24
import Derived.Test.YtpoppadihbgbgaaDev26
namespace Go.Proofs.Ytpoppadihbgbgaa
open Go.RowKit
/-- behind 'a, b := d, d' -/
def R3 (w : World) (x : Dv) (A : Option Addr) (c : Nat) (B : Option Addr) (d : Nat) (C : Option Addr) (e : Nat) (p q : Value) (wx : World) : Prop :=
  ∃ k5 k6, p = .pointer (some ⟨k5, 0, none⟩) ∧ q = .pointer (some ⟨k6, 0, none⟩) ∧ RowD wx k5 32 x A c B d C e ∧ RowD wx k6 32 x A c B d C e ∧ Below w.heap.size w wx ∧ w.heap.size ≤ k5 ∧ w.heap.size ≤ k6 ∧ k5 ≠ k6
/-- behind a step -/
def R13 (wr : World) (P : Nat → Prop) (y : Dv) (o v p u t : Value) (wx : World) : Prop :=
  ∃ k A c B d C e, p = .pointer (some ⟨k, 0, none⟩) ∧ u = o ∧ t = v ∧ RowD wx k 32 y A c B d C e ∧ RdS wx P A B C y ∧ Below wr.heap.size wr wx ∧ wr.heap.size ≤ k
/-- what holds in the loop -/
structure SI (w wr : World) (k5 k6 : Nat) (y : Dv) (A : Option Addr) (c : Nat) (B : Option Addr) (d : Nat) (C : Option Addr) (e : Nat) (A2 : Option Addr) (c2 : Nat) (B2 : Option Addr) (d2 : Nat) (C2 : Option Addr) (e2 : Nat) : Prop where
  ra : RowD wr k5 32 y A c B d C e
  rb : RowD wr k6 32 y A2 c2 B2 d2 C2 e2
  sa : RdS wr (fun g => g = k5 ∨ g = k6) A B C y
  sb : RdS wr (fun g => g = k5 ∨ g = k6) A2 B2 C2 y
  s0 : 0 ≤ y.seed
  s1 : y.seed < 18446744073709551616
  bel : Below w.heap.size w wr
theorem p_lt {wr : World} {k5 k6 : Nat} (h5 : k5 < wr.heap.size) (h6 : k6 < wr.heap.size) : ∀ g, (g = k5 ∨ g = k6) → g < wr.heap.size := by
  rintro g (rfl | rfl)
  · exact h5
  · exact h6
theorem RdS.weak {w : World} {P Q : Nat → Prop} {A B C : Option Addr} {x : Dv} (h : RdS w P A B C x) (hq : ∀ g, Q g → P g) : RdS w Q A B C x :=
  fun w' hk => h w' fun g h1 h2 => hk g (fun hg => h1 (hq g hg)) h2
theorem RdS.wide {w w2 : World} {P : Nat → Prop} {A B C : Option Addr} {x : Dv} (h : RdS w P A B C x) (hb : Below w.heap.size w w2) : RdS w2 (fun g => P g ∨ w.heap.size ≤ g) A B C x :=
  fun w' hk => h w' fun g h1 h2 => (hk g (fun hg => hg.elim h1 (fun h3 => Nat.lt_irrefl _ (Nat.lt_of_lt_of_le h2 h3))) (Nat.lt_of_lt_of_le h2 hb.size)).trans (hb.block g h2)
theorem RdS.fresh {w : World} {P : Nat → Prop} {A B C : Option Addr} {x : Dv} (h : RdS w P A B C x) (o : Obj) : RdS (w.alloc o) (fun g => P g ∨ g = w.heap.size) A B C x :=
  fun w' hk => h w' fun g h1 h2 => (hk g (fun hg => hg.elim h1 (fun h3 => by rw [h3] at h2; exact Nat.lt_irrefl _ h2)) (Nat.lt_trans h2 (size_new w o))).trans (heap_alloc_old w o h2)
theorem safe13 {wr wa w4 : World} {k : Nat} {P : Nat → Prop} {A B C A' B' C' : Option Addr} {x y : Dv} (h : RdS wr P A B C x) (hs : Same3 x y) (hbx : Below wr.heap.size wr wa) (hb : Below wa.heap.size wa w4) (hP : ∀ g, P g → g < wr.heap.size) (h1 : wr.heap.size ≤ k) (h2 : k < wa.heap.size) (hd : (A' = A ∧ B' = B ∧ C' = C) ∨ RdU w4 wa.heap.size A' B' C' y) : RdS w4 (fun g => P g ∨ g = k) A' B' C' y := by
  rcases hd with ⟨rfl, rfl, rfl⟩ | hd
  · exact (((h.wide (below_seq hbx hb)).weak (fun g hg => hg.elim Or.inl (fun e => Or.inr (by rw [e]; exact h1)))).same hs)
  · exact hd.safe fun g hg => hg.elim (fun e => Nat.lt_of_lt_of_le (hP g e) hbx.size) (fun e => by rw [e]; exact h2)
theorem safe14 {wq wz : World} {k : Nat} {P : Nat → Prop} {A B C : Option Addr} {x y : Dv} (h : RdS wq P A B C x) (hs : Same3 x y) (hb : Below wq.heap.size wq wz) (h1 : wq.heap.size ≤ k) : RdS wz (fun g => P g ∨ g = k) A B C y :=
  ((h.wide hb).weak (fun g hg => hg.elim Or.inl (fun e => Or.inr (by rw [e]; exact h1)))).same hs
set_option maxRecDepth 100000 in
set_option maxHeartbeats 16000000 in
theorem steps_w (x : Dv) (ws : List Int) (A B C F : Option Addr) (c d e f : Nat) (w : World) (h : RdD w A B C x) (hw : Rd w F ws) (s0 : 0 ≤ x.seed) (s1 : x.seed < 18446744073709551616) :
    Calls Try.prog 3 #[(Value.agg #[Value.int IntKind.i64 (Dv.I x), Value.int IntKind.i64 (Dv.S x), Value.slice A (Dv.nx x).length c, Value.slice B (Dv.out x).length d, Value.int IntKind.i64 (Dv.st x), Value.bool (Dv.rdy x), Value.slice C (Dv.step x).length e, Value.int IntKind.i64 (Dv.rs x), Value.int IntKind.i64 (Dv.lost x), Value.int IntKind.i64 (Dv.wrong x), Value.int IntKind.i64 (Dv.crash x), Value.int IntKind.u64 (Dv.seed x), Value.int IntKind.i64 (Dv.steps x), Value.int IntKind.i64 (Dv.resets x), Value.int IntKind.i64 (Dv.time x)]), .slice F ws.length f] w fun r w' => r = .returned (.bool true) ∧ Below w.heap.size w w' := by
  have mw := hw.1
  have HM := Lib.hid h
  have HW := Lib.hid hw
  have HS := Lib.hid (And.intro s0 s1)
  clear h hw s0 s1
  go_enter Try.func3, Try.ntmps3
  go_wp2_with fail
  obtain ⟨w0, hw0⟩ : ∃ w0, w0 = w.alloc (.cells (#[Value.int IntKind.i64 (Dv.I x), Value.int IntKind.i64 (Dv.S x), Value.slice A (Dv.nx x).length c, Value.slice B (Dv.out x).length d, Value.int IntKind.i64 (Dv.st x), Value.bool (Dv.rdy x), Value.slice C (Dv.step x).length e, Value.int IntKind.i64 (Dv.rs x), Value.int IntKind.i64 (Dv.lost x), Value.int IntKind.i64 (Dv.wrong x), Value.int IntKind.i64 (Dv.crash x), Value.int IntKind.u64 (Dv.seed x), Value.int IntKind.i64 (Dv.steps x), Value.int IntKind.i64 (Dv.resets x), Value.int IntKind.i64 (Dv.time x)]) 32) := ⟨_, rfl⟩
  have HX : Hid (RowD w0 w.heap.size 32 x A c B d C e) := Lib.hid (by rw [hw0]; exact Go.heap_alloc_new _ _)
  have hbel : Below w.heap.size w w0 := by rw [hw0]; exact (Below.refl _ _).alloc (Nat.le_refl _) _
  have hlt : w.heap.size < w0.heap.size := by rw [hw0]; exact size_new _ _
  rw [← hw0]
  clear hw0
  refine (great_b x.I x.S x.rs x.nx x.out x.step A B C c d e w0 (HM.out.keep hbel).nx (HM.out.keep hbel).out (HM.out.keep hbel).step).mono ?_
  rintro r w1 ⟨⟨b, rfl⟩, hb⟩
  replace HX := Lib.hid (HX.out.keep hlt hb)
  replace hbel := below_seq hbel hb
  replace hlt := size_lt hlt hb
  clear hb
  cases b with
  | true =>
    go_wp2_with fail
    refine (awake_t w1).mono ?_
    rintro r w2 ⟨rfl, hb⟩
    go_wp2_with fail
    go_ret
    exact ⟨rfl, below_seq hbel hb⟩
  | false =>
  by_cases hl : (60 : Int) < (ws.length : Int)
  · go_wp2_with fail
    refine (awake_t w1).mono ?_
    rintro r w2 ⟨rfl, hb⟩
    go_wp2_with fail
    go_ret
    exact ⟨rfl, below_seq hbel hb⟩
  go_upto_region 3 with fail
  go_cut [5, 6] (fun p q wx => R3 w x A c B d C e p q wx)
  case first =>
    refine wp_region_any (by kernel_rfl) ?_
    change wpAny _ _ _ _ _ _ _ (World.drew _)
    generalize hwa : World.drew _ = wa
    replace HX := Lib.hid (show RowD wa w.heap.size 32 x A c B d C e by rw [← hwa]; exact HX.out)
    replace hbel : Below w.heap.size w wa := by rw [← hwa]; exact hbel.drew
    replace hlt : w.heap.size < wa.heap.size := by rw [← hwa]; exact hlt
    clear hwa w1 w0
    refine wpAny_ready (rs := [0, 1, 2, 3]) (by kernel_rfl) (by simp) ?_
    refine AllReady.cons rfl (fun K hK => ?_) (AllReady.cons rfl (fun K hK => ?_) (AllReady.cons rfl (fun K hK => ?_) (AllReady.cons rfl (fun K hK => ?_) AllReady.nil)))
    · skip
      rw [if_pos (by rfl)]
      refine wp_load_row 32 _ rfl w.heap.size rfl 32 _ (0, 0) _ HX.out Try.underlying32 rfl (by kernel_rfl) ?_
      refine hK _ _ ?_
      clear hK K
      change wpAny _ _ _ _ _ _ (Act.put _ (some 29) _) _
      try simp only [Act.put, List.setIfInBounds_toArray, List.set_cons_zero, List.set_cons_succ]
      refine wpAny_ready (rs := [1, 2, 3]) (by kernel_rfl) (by simp) ?_
      refine AllReady.cons rfl (fun K hK => ?_) (AllReady.cons rfl (fun K hK => ?_) (AllReady.cons rfl (fun K hK => ?_) AllReady.nil))
      · skip
        rw [if_pos (by rfl)]
        refine wp_load_row 32 _ rfl w.heap.size rfl 32 _ (0, 0) _ HX.out Try.underlying32 rfl (by kernel_rfl) ?_
        refine hK _ _ ?_
        clear hK K
        change wpAny _ _ _ _ _ _ (Act.put _ (some 30) _) _
        try simp only [Act.put, List.setIfInBounds_toArray, List.set_cons_zero, List.set_cons_succ]
        refine wpAny_ready (rs := [2, 3]) (by kernel_rfl) (by simp) ?_
        refine AllReady.cons rfl (fun K hK => ?_) (AllReady.cons rfl (fun K hK => ?_) AllReady.nil)
        · skip
          rw [if_pos (by rfl)]
          go_simp
          refine hK _ _ ?_
          clear hK K
          try simp only [Act.put, List.setIfInBounds_toArray, List.set_cons_zero, List.set_cons_succ]
          have hgt5 := hlt
          have hge5 := Nat.le_of_lt hlt
          generalize hwb : World.alloc _ _ = wb
          have HZ5 : Hid (RowD wb wa.heap.size 32 zeroD none 0 none 0 none 0) := Lib.hid (by rw [← hwb]; exact Go.heap_alloc_new _ _)
          have hb : Below wa.heap.size wa wb := by rw [← hwb]; exact (Below.refl _ _).alloc (Nat.le_refl _) _
          replace HX := Lib.hid (HX.out.keep hlt hb)
          replace hbel := below_seq hbel hb
          replace hlt := size_lt hlt hb
          clear hb
          generalize wa.heap.size = k5 at *
          clear hwb
          rename World => wa
          try simp only [Act.put, List.setIfInBounds_toArray, List.set_cons_zero, List.set_cons_succ]
          refine wpAny_ready (rs := [3]) (by kernel_rfl) (by simp) ?_
          refine AllReady.cons rfl (fun K hK => ?_) AllReady.nil
          rw [if_pos (by rfl)]
          go_simp
          refine hK _ _ ?_
          clear hK K
          try simp only [Act.put, List.setIfInBounds_toArray, List.set_cons_zero, List.set_cons_succ]
          have hgt6 := hlt
          have hge6 := Nat.le_of_lt hlt
          have hne := Nat.ne_of_lt HZ5.out.lt
          generalize hwb : World.alloc _ _ = wb
          have HZ6 : Hid (RowD wb wa.heap.size 32 zeroD none 0 none 0 none 0) := Lib.hid (by rw [← hwb]; exact Go.heap_alloc_new _ _)
          have hb : Below wa.heap.size wa wb := by rw [← hwb]; exact (Below.refl _ _).alloc (Nat.le_refl _) _
          replace HX := Lib.hid (HX.out.keep hlt hb)
          replace HZ5 := Lib.hid (HZ5.out.keep (size_lt0 HZ5.out.lt) hb)
          replace hbel := below_seq hbel hb
          replace hlt := size_lt hlt hb
          clear hb
          generalize wa.heap.size = k6 at *
          clear hwb
          rename World => wa
          try simp only [Act.put, List.setIfInBounds_toArray, List.set_cons_zero, List.set_cons_succ]
          refine wpAny_ready (rs := [4]) (by kernel_rfl) (by simp) ?_
          refine AllReady.cons rfl (fun K hK => ?_) AllReady.nil
          rw [if_pos (by rfl)]
          refine wp_store_row 32 _ _ rfl k5 _ rfl rfl 32 _ HZ5.out (by kernel_rfl) rfl (dc_one _ _ _ _ _ _ _) ?_
          refine hK _ _ ?_
          clear hK K
          change wpAny _ _ _ _ _ _ (Act.put _ none _) _
          generalize hwb : World.setRow _ _ _ = wb
          have HA5 : Hid (RowD wb k5 32 x A c B d C e) := Lib.hid (by rw [← hwb]; exact RowD.put HZ5.out x A c B d C e)
          replace hbel : Below w.heap.size w wb := by rw [← hwb]; exact belowRow hbel hge5 _
          try clear HX
          try clear hlt
          replace HZ6 : Hid (RowD wb k6 32 zeroD none 0 none 0 none 0) := Lib.hid (by rw [← hwb]; exact (setRow_other _ _ _ _ (by omega)).trans HZ6.out)
          clear hwb
          rename World => wa
          try simp only [Act.put]
          refine wpAny_ready (rs := [5]) (by kernel_rfl) (by simp) ?_
          refine AllReady.cons rfl (fun K hK => ?_) AllReady.nil
          rw [if_pos (by rfl)]
          refine wp_store_row 32 _ _ rfl k6 _ rfl rfl 32 _ HZ6.out (by kernel_rfl) rfl (dc_one _ _ _ _ _ _ _) ?_
          refine hK _ _ ?_
          clear hK K
          change wpAny _ _ _ _ _ _ (Act.put _ none _) _
          generalize hwb : World.setRow _ _ _ = wb
          have HA6 : Hid (RowD wb k6 32 x A c B d C e) := Lib.hid (by rw [← hwb]; exact RowD.put HZ6.out x A c B d C e)
          replace hbel : Below w.heap.size w wb := by rw [← hwb]; exact belowRow hbel hge6 _
          try clear HX
          try clear hlt
          replace HA5 : Hid (RowD wb k5 32 x A c B d C e) := Lib.hid (by rw [← hwb]; exact (setRow_other _ _ _ _ (by omega)).trans HA5.out)
          clear hwb
          rename World => wa
          try simp only [Act.put]
          refine wpAny_done (by kernel_rfl) ?_ _
          go_wp2_with fail
          go_meet
          exact ⟨k5, k6, rfl, rfl, HA5.out, HA6.out, hbel, hge5, hge6, by omega⟩
        · skip
          rw [if_pos (by rfl)]
          go_simp
          refine hK _ _ ?_
          clear hK K
          try simp only [Act.put, List.setIfInBounds_toArray, List.set_cons_zero, List.set_cons_succ]
          have hgt6 := hlt
          have hge6 := Nat.le_of_lt hlt
          generalize hwb : World.alloc _ _ = wb
          have HZ6 : Hid (RowD wb wa.heap.size 32 zeroD none 0 none 0 none 0) := Lib.hid (by rw [← hwb]; exact Go.heap_alloc_new _ _)
          have hb : Below wa.heap.size wa wb := by rw [← hwb]; exact (Below.refl _ _).alloc (Nat.le_refl _) _
          replace HX := Lib.hid (HX.out.keep hlt hb)
          replace hbel := below_seq hbel hb
          replace hlt := size_lt hlt hb
          clear hb
          generalize wa.heap.size = k6 at *
          clear hwb
          rename World => wa
          try simp only [Act.put, List.setIfInBounds_toArray, List.set_cons_zero, List.set_cons_succ]
          refine wpAny_ready (rs := [2]) (by kernel_rfl) (by simp) ?_
          refine AllReady.cons rfl (fun K hK => ?_) AllReady.nil
          rw [if_pos (by rfl)]
          go_simp
          refine hK _ _ ?_
          clear hK K
          try simp only [Act.put, List.setIfInBounds_toArray, List.set_cons_zero, List.set_cons_succ]
          have hgt5 := hlt
          have hge5 := Nat.le_of_lt hlt
          have hne := Nat.ne_of_lt HZ6.out.lt
          generalize hwb : World.alloc _ _ = wb
          have HZ5 : Hid (RowD wb wa.heap.size 32 zeroD none 0 none 0 none 0) := Lib.hid (by rw [← hwb]; exact Go.heap_alloc_new _ _)
          have hb : Below wa.heap.size wa wb := by rw [← hwb]; exact (Below.refl _ _).alloc (Nat.le_refl _) _
          replace HX := Lib.hid (HX.out.keep hlt hb)
          replace HZ6 := Lib.hid (HZ6.out.keep (size_lt0 HZ6.out.lt) hb)
          replace hbel := below_seq hbel hb
          replace hlt := size_lt hlt hb
          clear hb
          generalize wa.heap.size = k5 at *
          clear hwb
          rename World => wa
          try simp only [Act.put, List.setIfInBounds_toArray, List.set_cons_zero, List.set_cons_succ]
          refine wpAny_ready (rs := [4]) (by kernel_rfl) (by simp) ?_
          refine AllReady.cons rfl (fun K hK => ?_) AllReady.nil
          rw [if_pos (by rfl)]
          refine wp_store_row 32 _ _ rfl k5 _ rfl rfl 32 _ HZ5.out (by kernel_rfl) rfl (dc_one _ _ _ _ _ _ _) ?_
          refine hK _ _ ?_
          clear hK K
          change wpAny _ _ _ _ _ _ (Act.put _ none _) _
          generalize hwb : World.setRow _ _ _ = wb
          have HA5 : Hid (RowD wb k5 32 x A c B d C e) := Lib.hid (by rw [← hwb]; exact RowD.put HZ5.out x A c B d C e)
          replace hbel : Below w.heap.size w wb := by rw [← hwb]; exact belowRow hbel hge5 _
          try clear HX
          try clear hlt
          replace HZ6 : Hid (RowD wb k6 32 zeroD none 0 none 0 none 0) := Lib.hid (by rw [← hwb]; exact (setRow_other _ _ _ _ (by omega)).trans HZ6.out)
          clear hwb
          rename World => wa
          try simp only [Act.put]
          refine wpAny_ready (rs := [5]) (by kernel_rfl) (by simp) ?_
          refine AllReady.cons rfl (fun K hK => ?_) AllReady.nil
          rw [if_pos (by rfl)]
          refine wp_store_row 32 _ _ rfl k6 _ rfl rfl 32 _ HZ6.out (by kernel_rfl) rfl (dc_one _ _ _ _ _ _ _) ?_
          refine hK _ _ ?_
          clear hK K
          change wpAny _ _ _ _ _ _ (Act.put _ none _) _
          generalize hwb : World.setRow _ _ _ = wb
          have HA6 : Hid (RowD wb k6 32 x A c B d C e) := Lib.hid (by rw [← hwb]; exact RowD.put HZ6.out x A c B d C e)
          replace hbel : Below w.heap.size w wb := by rw [← hwb]; exact belowRow hbel hge6 _
          try clear HX
          try clear hlt
          replace HA5 : Hid (RowD wb k5 32 x A c B d C e) := Lib.hid (by rw [← hwb]; exact (setRow_other _ _ _ _ (by omega)).trans HA5.out)
          clear hwb
          rename World => wa
          try simp only [Act.put]
          refine wpAny_done (by kernel_rfl) ?_ _
          go_wp2_with fail
          go_meet
          exact ⟨k5, k6, rfl, rfl, HA5.out, HA6.out, hbel, hge5, hge6, by omega⟩
      · skip
        rw [if_pos (by rfl)]
        go_simp
        refine hK _ _ ?_
        clear hK K
        try simp only [Act.put, List.setIfInBounds_toArray, List.set_cons_zero, List.set_cons_succ]
        have hgt5 := hlt
        have hge5 := Nat.le_of_lt hlt
        generalize hwb : World.alloc _ _ = wb
        have HZ5 : Hid (RowD wb wa.heap.size 32 zeroD none 0 none 0 none 0) := Lib.hid (by rw [← hwb]; exact Go.heap_alloc_new _ _)
        have hb : Below wa.heap.size wa wb := by rw [← hwb]; exact (Below.refl _ _).alloc (Nat.le_refl _) _
        replace HX := Lib.hid (HX.out.keep hlt hb)
        replace hbel := below_seq hbel hb
        replace hlt := size_lt hlt hb
        clear hb
        generalize wa.heap.size = k5 at *
        clear hwb
        rename World => wa
        try simp only [Act.put, List.setIfInBounds_toArray, List.set_cons_zero, List.set_cons_succ]
        refine wpAny_ready (rs := [1, 3]) (by kernel_rfl) (by simp) ?_
        refine AllReady.cons rfl (fun K hK => ?_) (AllReady.cons rfl (fun K hK => ?_) AllReady.nil)
        · skip
          rw [if_pos (by rfl)]
          refine wp_load_row 32 _ rfl w.heap.size rfl 32 _ (0, 0) _ HX.out Try.underlying32 rfl (by kernel_rfl) ?_
          refine hK _ _ ?_
          clear hK K
          change wpAny _ _ _ _ _ _ (Act.put _ (some 30) _) _
          try simp only [Act.put, List.setIfInBounds_toArray, List.set_cons_zero, List.set_cons_succ]
          refine wpAny_ready (rs := [3]) (by kernel_rfl) (by simp) ?_
          refine AllReady.cons rfl (fun K hK => ?_) AllReady.nil
          rw [if_pos (by rfl)]
          go_simp
          refine hK _ _ ?_
          clear hK K
          try simp only [Act.put, List.setIfInBounds_toArray, List.set_cons_zero, List.set_cons_succ]
          have hgt6 := hlt
          have hge6 := Nat.le_of_lt hlt
          have hne := Nat.ne_of_lt HZ5.out.lt
          generalize hwb : World.alloc _ _ = wb
          have HZ6 : Hid (RowD wb wa.heap.size 32 zeroD none 0 none 0 none 0) := Lib.hid (by rw [← hwb]; exact Go.heap_alloc_new _ _)
          have hb : Below wa.heap.size wa wb := by rw [← hwb]; exact (Below.refl _ _).alloc (Nat.le_refl _) _
          replace HX := Lib.hid (HX.out.keep hlt hb)
          replace HZ5 := Lib.hid (HZ5.out.keep (size_lt0 HZ5.out.lt) hb)
          replace hbel := below_seq hbel hb
          replace hlt := size_lt hlt hb
          clear hb
          generalize wa.heap.size = k6 at *
          clear hwb
          rename World => wa
          try simp only [Act.put, List.setIfInBounds_toArray, List.set_cons_zero, List.set_cons_succ]
          refine wpAny_ready (rs := [4]) (by kernel_rfl) (by simp) ?_
          refine AllReady.cons rfl (fun K hK => ?_) AllReady.nil
          rw [if_pos (by rfl)]
          refine wp_store_row 32 _ _ rfl k5 _ rfl rfl 32 _ HZ5.out (by kernel_rfl) rfl (dc_one _ _ _ _ _ _ _) ?_
          refine hK _ _ ?_
          clear hK K
          change wpAny _ _ _ _ _ _ (Act.put _ none _) _
          generalize hwb : World.setRow _ _ _ = wb
          have HA5 : Hid (RowD wb k5 32 x A c B d C e) := Lib.hid (by rw [← hwb]; exact RowD.put HZ5.out x A c B d C e)
          replace hbel : Below w.heap.size w wb := by rw [← hwb]; exact belowRow hbel hge5 _
          try clear HX
          try clear hlt
          replace HZ6 : Hid (RowD wb k6 32 zeroD none 0 none 0 none 0) := Lib.hid (by rw [← hwb]; exact (setRow_other _ _ _ _ (by omega)).trans HZ6.out)
          clear hwb
          rename World => wa
          try simp only [Act.put]
          refine wpAny_ready (rs := [5]) (by kernel_rfl) (by simp) ?_
          refine AllReady.cons rfl (fun K hK => ?_) AllReady.nil
          rw [if_pos (by rfl)]
          refine wp_store_row 32 _ _ rfl k6 _ rfl rfl 32 _ HZ6.out (by kernel_rfl) rfl (dc_one _ _ _ _ _ _ _) ?_
          refine hK _ _ ?_
          clear hK K
          change wpAny _ _ _ _ _ _ (Act.put _ none _) _
          generalize hwb : World.setRow _ _ _ = wb
          have HA6 : Hid (RowD wb k6 32 x A c B d C e) := Lib.hid (by rw [← hwb]; exact RowD.put HZ6.out x A c B d C e)
          replace hbel : Below w.heap.size w wb := by rw [← hwb]; exact belowRow hbel hge6 _
          try clear HX
          try clear hlt
          replace HA5 : Hid (RowD wb k5 32 x A c B d C e) := Lib.hid (by rw [← hwb]; exact (setRow_other _ _ _ _ (by omega)).trans HA5.out)
          clear hwb
          rename World => wa
          try simp only [Act.put]
          refine wpAny_done (by kernel_rfl) ?_ _
          go_wp2_with fail
          go_meet
          exact ⟨k5, k6, rfl, rfl, HA5.out, HA6.out, hbel, hge5, hge6, by omega⟩
        · skip
          rw [if_pos (by rfl)]
          go_simp
          refine hK _ _ ?_
          clear hK K
          try simp only [Act.put, List.setIfInBounds_toArray, List.set_cons_zero, List.set_cons_succ]
          have hgt6 := hlt
          have hge6 := Nat.le_of_lt hlt
          have hne := Nat.ne_of_lt HZ5.out.lt
          generalize hwb : World.alloc _ _ = wb
          have HZ6 : Hid (RowD wb wa.heap.size 32 zeroD none 0 none 0 none 0) := Lib.hid (by rw [← hwb]; exact Go.heap_alloc_new _ _)
          have hb : Below wa.heap.size wa wb := by rw [← hwb]; exact (Below.refl _ _).alloc (Nat.le_refl _) _
          replace HX := Lib.hid (HX.out.keep hlt hb)
          replace HZ5 := Lib.hid (HZ5.out.keep (size_lt0 HZ5.out.lt) hb)
          replace hbel := below_seq hbel hb
          replace hlt := size_lt hlt hb
          clear hb
          generalize wa.heap.size = k6 at *
          clear hwb
          rename World => wa
          try simp only [Act.put, List.setIfInBounds_toArray, List.set_cons_zero, List.set_cons_succ]
          refine wpAny_ready (rs := [1, 4]) (by kernel_rfl) (by simp) ?_
          refine AllReady.cons rfl (fun K hK => ?_) (AllReady.cons rfl (fun K hK => ?_) AllReady.nil)
          · skip
            rw [if_pos (by rfl)]
            refine wp_load_row 32 _ rfl w.heap.size rfl 32 _ (0, 0) _ HX.out Try.underlying32 rfl (by kernel_rfl) ?_
            refine hK _ _ ?_
            clear hK K
            change wpAny _ _ _ _ _ _ (Act.put _ (some 30) _) _
            try simp only [Act.put, List.setIfInBounds_toArray, List.set_cons_zero, List.set_cons_succ]
            refine wpAny_ready (rs := [4]) (by kernel_rfl) (by simp) ?_
            refine AllReady.cons rfl (fun K hK => ?_) AllReady.nil
            rw [if_pos (by rfl)]
            refine wp_store_row 32 _ _ rfl k5 _ rfl rfl 32 _ HZ5.out (by kernel_rfl) rfl (dc_one _ _ _ _ _ _ _) ?_
            refine hK _ _ ?_
            clear hK K
            change wpAny _ _ _ _ _ _ (Act.put _ none _) _
            generalize hwb : World.setRow _ _ _ = wb
            have HA5 : Hid (RowD wb k5 32 x A c B d C e) := Lib.hid (by rw [← hwb]; exact RowD.put HZ5.out x A c B d C e)
            replace hbel : Below w.heap.size w wb := by rw [← hwb]; exact belowRow hbel hge5 _
            try clear HX
            try clear hlt
            replace HZ6 : Hid (RowD wb k6 32 zeroD none 0 none 0 none 0) := Lib.hid (by rw [← hwb]; exact (setRow_other _ _ _ _ (by omega)).trans HZ6.out)
            clear hwb
            rename World => wa
            try simp only [Act.put]
            refine wpAny_ready (rs := [5]) (by kernel_rfl) (by simp) ?_
            refine AllReady.cons rfl (fun K hK => ?_) AllReady.nil
            rw [if_pos (by rfl)]
            refine wp_store_row 32 _ _ rfl k6 _ rfl rfl 32 _ HZ6.out (by kernel_rfl) rfl (dc_one _ _ _ _ _ _ _) ?_
            refine hK _ _ ?_
            clear hK K
            change wpAny _ _ _ _ _ _ (Act.put _ none _) _
            generalize hwb : World.setRow _ _ _ = wb
            have HA6 : Hid (RowD wb k6 32 x A c B d C e) := Lib.hid (by rw [← hwb]; exact RowD.put HZ6.out x A c B d C e)
            replace hbel : Below w.heap.size w wb := by rw [← hwb]; exact belowRow hbel hge6 _
            try clear HX
            try clear hlt
            replace HA5 : Hid (RowD wb k5 32 x A c B d C e) := Lib.hid (by rw [← hwb]; exact (setRow_other _ _ _ _ (by omega)).trans HA5.out)
            clear hwb
            rename World => wa
            try simp only [Act.put]
            refine wpAny_done (by kernel_rfl) ?_ _
            go_wp2_with fail
            go_meet
            exact ⟨k5, k6, rfl, rfl, HA5.out, HA6.out, hbel, hge5, hge6, by omega⟩
          · skip
            rw [if_pos (by rfl)]
            refine wp_store_row 32 _ _ rfl k5 _ rfl rfl 32 _ HZ5.out (by kernel_rfl) rfl (dc_one _ _ _ _ _ _ _) ?_
            refine hK _ _ ?_
            clear hK K
            change wpAny _ _ _ _ _ _ (Act.put _ none _) _
            generalize hwb : World.setRow _ _ _ = wb
            have HA5 : Hid (RowD wb k5 32 x A c B d C e) := Lib.hid (by rw [← hwb]; exact RowD.put HZ5.out x A c B d C e)
            replace hbel : Below w.heap.size w wb := by rw [← hwb]; exact belowRow hbel hge5 _
            replace HX := Lib.hid (show RowD wb w.heap.size 32 x A c B d C e by rw [← hwb]; exact (setRow_other _ _ _ _ (by omega)).trans HX.out)
            try clear hlt
            replace HZ6 : Hid (RowD wb k6 32 zeroD none 0 none 0 none 0) := Lib.hid (by rw [← hwb]; exact (setRow_other _ _ _ _ (by omega)).trans HZ6.out)
            clear hwb
            rename World => wa
            try simp only [Act.put]
            refine wpAny_ready (rs := [1]) (by kernel_rfl) (by simp) ?_
            refine AllReady.cons rfl (fun K hK => ?_) AllReady.nil
            rw [if_pos (by rfl)]
            refine wp_load_row 32 _ rfl w.heap.size rfl 32 _ (0, 0) _ HX.out Try.underlying32 rfl (by kernel_rfl) ?_
            refine hK _ _ ?_
            clear hK K
            change wpAny _ _ _ _ _ _ (Act.put _ (some 30) _) _
            try simp only [Act.put, List.setIfInBounds_toArray, List.set_cons_zero, List.set_cons_succ]
            refine wpAny_ready (rs := [5]) (by kernel_rfl) (by simp) ?_
            refine AllReady.cons rfl (fun K hK => ?_) AllReady.nil
            rw [if_pos (by rfl)]
            refine wp_store_row 32 _ _ rfl k6 _ rfl rfl 32 _ HZ6.out (by kernel_rfl) rfl (dc_one _ _ _ _ _ _ _) ?_
            refine hK _ _ ?_
            clear hK K
            change wpAny _ _ _ _ _ _ (Act.put _ none _) _
            generalize hwb : World.setRow _ _ _ = wb
            have HA6 : Hid (RowD wb k6 32 x A c B d C e) := Lib.hid (by rw [← hwb]; exact RowD.put HZ6.out x A c B d C e)
            replace hbel : Below w.heap.size w wb := by rw [← hwb]; exact belowRow hbel hge6 _
            try clear HX
            try clear hlt
            replace HA5 : Hid (RowD wb k5 32 x A c B d C e) := Lib.hid (by rw [← hwb]; exact (setRow_other _ _ _ _ (by omega)).trans HA5.out)
            clear hwb
            rename World => wa
            try simp only [Act.put]
            refine wpAny_done (by kernel_rfl) ?_ _
            go_wp2_with fail
            go_meet
            exact ⟨k5, k6, rfl, rfl, HA5.out, HA6.out, hbel, hge5, hge6, by omega⟩
      · skip
        rw [if_pos (by rfl)]
        go_simp
        refine hK _ _ ?_
        clear hK K
        try simp only [Act.put, List.setIfInBounds_toArray, List.set_cons_zero, List.set_cons_succ]
        have hgt6 := hlt
        have hge6 := Nat.le_of_lt hlt
        generalize hwb : World.alloc _ _ = wb
        have HZ6 : Hid (RowD wb wa.heap.size 32 zeroD none 0 none 0 none 0) := Lib.hid (by rw [← hwb]; exact Go.heap_alloc_new _ _)
        have hb : Below wa.heap.size wa wb := by rw [← hwb]; exact (Below.refl _ _).alloc (Nat.le_refl _) _
        replace HX := Lib.hid (HX.out.keep hlt hb)
        replace hbel := below_seq hbel hb
        replace hlt := size_lt hlt hb
        clear hb
        generalize wa.heap.size = k6 at *
        clear hwb
        rename World => wa
        try simp only [Act.put, List.setIfInBounds_toArray, List.set_cons_zero, List.set_cons_succ]
        refine wpAny_ready (rs := [1, 2]) (by kernel_rfl) (by simp) ?_
        refine AllReady.cons rfl (fun K hK => ?_) (AllReady.cons rfl (fun K hK => ?_) AllReady.nil)
        · skip
          rw [if_pos (by rfl)]
          refine wp_load_row 32 _ rfl w.heap.size rfl 32 _ (0, 0) _ HX.out Try.underlying32 rfl (by kernel_rfl) ?_
          refine hK _ _ ?_
          clear hK K
          change wpAny _ _ _ _ _ _ (Act.put _ (some 30) _) _
          try simp only [Act.put, List.setIfInBounds_toArray, List.set_cons_zero, List.set_cons_succ]
          refine wpAny_ready (rs := [2]) (by kernel_rfl) (by simp) ?_
          refine AllReady.cons rfl (fun K hK => ?_) AllReady.nil
          rw [if_pos (by rfl)]
          go_simp
          refine hK _ _ ?_
          clear hK K
          try simp only [Act.put, List.setIfInBounds_toArray, List.set_cons_zero, List.set_cons_succ]
          have hgt5 := hlt
          have hge5 := Nat.le_of_lt hlt
          have hne := Nat.ne_of_lt HZ6.out.lt
          generalize hwb : World.alloc _ _ = wb
          have HZ5 : Hid (RowD wb wa.heap.size 32 zeroD none 0 none 0 none 0) := Lib.hid (by rw [← hwb]; exact Go.heap_alloc_new _ _)
          have hb : Below wa.heap.size wa wb := by rw [← hwb]; exact (Below.refl _ _).alloc (Nat.le_refl _) _
          replace HX := Lib.hid (HX.out.keep hlt hb)
          replace HZ6 := Lib.hid (HZ6.out.keep (size_lt0 HZ6.out.lt) hb)
          replace hbel := below_seq hbel hb
          replace hlt := size_lt hlt hb
          clear hb
          generalize wa.heap.size = k5 at *
          clear hwb
          rename World => wa
          try simp only [Act.put, List.setIfInBounds_toArray, List.set_cons_zero, List.set_cons_succ]
          refine wpAny_ready (rs := [4]) (by kernel_rfl) (by simp) ?_
          refine AllReady.cons rfl (fun K hK => ?_) AllReady.nil
          rw [if_pos (by rfl)]
          refine wp_store_row 32 _ _ rfl k5 _ rfl rfl 32 _ HZ5.out (by kernel_rfl) rfl (dc_one _ _ _ _ _ _ _) ?_
          refine hK _ _ ?_
          clear hK K
          change wpAny _ _ _ _ _ _ (Act.put _ none _) _
          generalize hwb : World.setRow _ _ _ = wb
          have HA5 : Hid (RowD wb k5 32 x A c B d C e) := Lib.hid (by rw [← hwb]; exact RowD.put HZ5.out x A c B d C e)
          replace hbel : Below w.heap.size w wb := by rw [← hwb]; exact belowRow hbel hge5 _
          try clear HX
          try clear hlt
          replace HZ6 : Hid (RowD wb k6 32 zeroD none 0 none 0 none 0) := Lib.hid (by rw [← hwb]; exact (setRow_other _ _ _ _ (by omega)).trans HZ6.out)
          clear hwb
          rename World => wa
          try simp only [Act.put]
          refine wpAny_ready (rs := [5]) (by kernel_rfl) (by simp) ?_
          refine AllReady.cons rfl (fun K hK => ?_) AllReady.nil
          rw [if_pos (by rfl)]
          refine wp_store_row 32 _ _ rfl k6 _ rfl rfl 32 _ HZ6.out (by kernel_rfl) rfl (dc_one _ _ _ _ _ _ _) ?_
          refine hK _ _ ?_
          clear hK K
          change wpAny _ _ _ _ _ _ (Act.put _ none _) _
          generalize hwb : World.setRow _ _ _ = wb
          have HA6 : Hid (RowD wb k6 32 x A c B d C e) := Lib.hid (by rw [← hwb]; exact RowD.put HZ6.out x A c B d C e)
          replace hbel : Below w.heap.size w wb := by rw [← hwb]; exact belowRow hbel hge6 _
          try clear HX
          try clear hlt
          replace HA5 : Hid (RowD wb k5 32 x A c B d C e) := Lib.hid (by rw [← hwb]; exact (setRow_other _ _ _ _ (by omega)).trans HA5.out)
          clear hwb
          rename World => wa
          try simp only [Act.put]
          refine wpAny_done (by kernel_rfl) ?_ _
          go_wp2_with fail
          go_meet
          exact ⟨k5, k6, rfl, rfl, HA5.out, HA6.out, hbel, hge5, hge6, by omega⟩
        · skip
          rw [if_pos (by rfl)]
          go_simp
          refine hK _ _ ?_
          clear hK K
          try simp only [Act.put, List.setIfInBounds_toArray, List.set_cons_zero, List.set_cons_succ]
          have hgt5 := hlt
          have hge5 := Nat.le_of_lt hlt
          have hne := Nat.ne_of_lt HZ6.out.lt
          generalize hwb : World.alloc _ _ = wb
          have HZ5 : Hid (RowD wb wa.heap.size 32 zeroD none 0 none 0 none 0) := Lib.hid (by rw [← hwb]; exact Go.heap_alloc_new _ _)
          have hb : Below wa.heap.size wa wb := by rw [← hwb]; exact (Below.refl _ _).alloc (Nat.le_refl _) _
          replace HX := Lib.hid (HX.out.keep hlt hb)
          replace HZ6 := Lib.hid (HZ6.out.keep (size_lt0 HZ6.out.lt) hb)
          replace hbel := below_seq hbel hb
          replace hlt := size_lt hlt hb
          clear hb
          generalize wa.heap.size = k5 at *
          clear hwb
          rename World => wa
          try simp only [Act.put, List.setIfInBounds_toArray, List.set_cons_zero, List.set_cons_succ]
          refine wpAny_ready (rs := [1, 4]) (by kernel_rfl) (by simp) ?_
          refine AllReady.cons rfl (fun K hK => ?_) (AllReady.cons rfl (fun K hK => ?_) AllReady.nil)
          · skip
            rw [if_pos (by rfl)]
            refine wp_load_row 32 _ rfl w.heap.size rfl 32 _ (0, 0) _ HX.out Try.underlying32 rfl (by kernel_rfl) ?_
            refine hK _ _ ?_
            clear hK K
            change wpAny _ _ _ _ _ _ (Act.put _ (some 30) _) _
            try simp only [Act.put, List.setIfInBounds_toArray, List.set_cons_zero, List.set_cons_succ]
            refine wpAny_ready (rs := [4]) (by kernel_rfl) (by simp) ?_
            refine AllReady.cons rfl (fun K hK => ?_) AllReady.nil
            rw [if_pos (by rfl)]
            refine wp_store_row 32 _ _ rfl k5 _ rfl rfl 32 _ HZ5.out (by kernel_rfl) rfl (dc_one _ _ _ _ _ _ _) ?_
            refine hK _ _ ?_
            clear hK K
            change wpAny _ _ _ _ _ _ (Act.put _ none _) _
            generalize hwb : World.setRow _ _ _ = wb
            have HA5 : Hid (RowD wb k5 32 x A c B d C e) := Lib.hid (by rw [← hwb]; exact RowD.put HZ5.out x A c B d C e)
            replace hbel : Below w.heap.size w wb := by rw [← hwb]; exact belowRow hbel hge5 _
            try clear HX
            try clear hlt
            replace HZ6 : Hid (RowD wb k6 32 zeroD none 0 none 0 none 0) := Lib.hid (by rw [← hwb]; exact (setRow_other _ _ _ _ (by omega)).trans HZ6.out)
            clear hwb
            rename World => wa
            try simp only [Act.put]
            refine wpAny_ready (rs := [5]) (by kernel_rfl) (by simp) ?_
            refine AllReady.cons rfl (fun K hK => ?_) AllReady.nil
            rw [if_pos (by rfl)]
            refine wp_store_row 32 _ _ rfl k6 _ rfl rfl 32 _ HZ6.out (by kernel_rfl) rfl (dc_one _ _ _ _ _ _ _) ?_
            refine hK _ _ ?_
            clear hK K
            change wpAny _ _ _ _ _ _ (Act.put _ none _) _
            generalize hwb : World.setRow _ _ _ = wb
            have HA6 : Hid (RowD wb k6 32 x A c B d C e) := Lib.hid (by rw [← hwb]; exact RowD.put HZ6.out x A c B d C e)
            replace hbel : Below w.heap.size w wb := by rw [← hwb]; exact belowRow hbel hge6 _
            try clear HX
            try clear hlt
            replace HA5 : Hid (RowD wb k5 32 x A c B d C e) := Lib.hid (by rw [← hwb]; exact (setRow_other _ _ _ _ (by omega)).trans HA5.out)
            clear hwb
            rename World => wa
            try simp only [Act.put]
            refine wpAny_done (by kernel_rfl) ?_ _
            go_wp2_with fail
            go_meet
            exact ⟨k5, k6, rfl, rfl, HA5.out, HA6.out, hbel, hge5, hge6, by omega⟩
          · skip
            rw [if_pos (by rfl)]
            refine wp_store_row 32 _ _ rfl k5 _ rfl rfl 32 _ HZ5.out (by kernel_rfl) rfl (dc_one _ _ _ _ _ _ _) ?_
            refine hK _ _ ?_
            clear hK K
            change wpAny _ _ _ _ _ _ (Act.put _ none _) _
            generalize hwb : World.setRow _ _ _ = wb
            have HA5 : Hid (RowD wb k5 32 x A c B d C e) := Lib.hid (by rw [← hwb]; exact RowD.put HZ5.out x A c B d C e)
            replace hbel : Below w.heap.size w wb := by rw [← hwb]; exact belowRow hbel hge5 _
            replace HX := Lib.hid (show RowD wb w.heap.size 32 x A c B d C e by rw [← hwb]; exact (setRow_other _ _ _ _ (by omega)).trans HX.out)
            try clear hlt
            replace HZ6 : Hid (RowD wb k6 32 zeroD none 0 none 0 none 0) := Lib.hid (by rw [← hwb]; exact (setRow_other _ _ _ _ (by omega)).trans HZ6.out)
            clear hwb
            rename World => wa
            try simp only [Act.put]
            refine wpAny_ready (rs := [1]) (by kernel_rfl) (by simp) ?_
            refine AllReady.cons rfl (fun K hK => ?_) AllReady.nil
            rw [if_pos (by rfl)]
            refine wp_load_row 32 _ rfl w.heap.size rfl 32 _ (0, 0) _ HX.out Try.underlying32 rfl (by kernel_rfl) ?_
            refine hK _ _ ?_
            clear hK K
            change wpAny _ _ _ _ _ _ (Act.put _ (some 30) _) _
            try simp only [Act.put, List.setIfInBounds_toArray, List.set_cons_zero, List.set_cons_succ]
            refine wpAny_ready (rs := [5]) (by kernel_rfl) (by simp) ?_
            refine AllReady.cons rfl (fun K hK => ?_) AllReady.nil
            rw [if_pos (by rfl)]
            refine wp_store_row 32 _ _ rfl k6 _ rfl rfl 32 _ HZ6.out (by kernel_rfl) rfl (dc_one _ _ _ _ _ _ _) ?_
            refine hK _ _ ?_
            clear hK K
            change wpAny _ _ _ _ _ _ (Act.put _ none _) _
            generalize hwb : World.setRow _ _ _ = wb
            have HA6 : Hid (RowD wb k6 32 x A c B d C e) := Lib.hid (by rw [← hwb]; exact RowD.put HZ6.out x A c B d C e)
            replace hbel : Below w.heap.size w wb := by rw [← hwb]; exact belowRow hbel hge6 _
            try clear HX
            try clear hlt
            replace HA5 : Hid (RowD wb k5 32 x A c B d C e) := Lib.hid (by rw [← hwb]; exact (setRow_other _ _ _ _ (by omega)).trans HA5.out)
            clear hwb
            rename World => wa
            try simp only [Act.put]
            refine wpAny_done (by kernel_rfl) ?_ _
            go_wp2_with fail
            go_meet
            exact ⟨k5, k6, rfl, rfl, HA5.out, HA6.out, hbel, hge5, hge6, by omega⟩
    · skip
      rw [if_pos (by rfl)]
      refine wp_load_row 32 _ rfl w.heap.size rfl 32 _ (0, 0) _ HX.out Try.underlying32 rfl (by kernel_rfl) ?_
      refine hK _ _ ?_
      clear hK K
      change wpAny _ _ _ _ _ _ (Act.put _ (some 30) _) _
      try simp only [Act.put, List.setIfInBounds_toArray, List.set_cons_zero, List.set_cons_succ]
      refine wpAny_ready (rs := [0, 2, 3]) (by kernel_rfl) (by simp) ?_
      refine AllReady.cons rfl (fun K hK => ?_) (AllReady.cons rfl (fun K hK => ?_) (AllReady.cons rfl (fun K hK => ?_) AllReady.nil))
      · skip
        rw [if_pos (by rfl)]
        refine wp_load_row 32 _ rfl w.heap.size rfl 32 _ (0, 0) _ HX.out Try.underlying32 rfl (by kernel_rfl) ?_
        refine hK _ _ ?_
        clear hK K
        change wpAny _ _ _ _ _ _ (Act.put _ (some 29) _) _
        try simp only [Act.put, List.setIfInBounds_toArray, List.set_cons_zero, List.set_cons_succ]
        refine wpAny_ready (rs := [2, 3]) (by kernel_rfl) (by simp) ?_
        refine AllReady.cons rfl (fun K hK => ?_) (AllReady.cons rfl (fun K hK => ?_) AllReady.nil)
        · skip
          rw [if_pos (by rfl)]
          go_simp
          refine hK _ _ ?_
          clear hK K
          try simp only [Act.put, List.setIfInBounds_toArray, List.set_cons_zero, List.set_cons_succ]
          have hgt5 := hlt
          have hge5 := Nat.le_of_lt hlt
          generalize hwb : World.alloc _ _ = wb
          have HZ5 : Hid (RowD wb wa.heap.size 32 zeroD none 0 none 0 none 0) := Lib.hid (by rw [← hwb]; exact Go.heap_alloc_new _ _)
          have hb : Below wa.heap.size wa wb := by rw [← hwb]; exact (Below.refl _ _).alloc (Nat.le_refl _) _
          replace HX := Lib.hid (HX.out.keep hlt hb)
          replace hbel := below_seq hbel hb
          replace hlt := size_lt hlt hb
          clear hb
          generalize wa.heap.size = k5 at *
          clear hwb
          rename World => wa
          try simp only [Act.put, List.setIfInBounds_toArray, List.set_cons_zero, List.set_cons_succ]
          refine wpAny_ready (rs := [3]) (by kernel_rfl) (by simp) ?_
          refine AllReady.cons rfl (fun K hK => ?_) AllReady.nil
          rw [if_pos (by rfl)]
          go_simp
          refine hK _ _ ?_
          clear hK K
          try simp only [Act.put, List.setIfInBounds_toArray, List.set_cons_zero, List.set_cons_succ]
          have hgt6 := hlt
          have hge6 := Nat.le_of_lt hlt
          have hne := Nat.ne_of_lt HZ5.out.lt
          generalize hwb : World.alloc _ _ = wb
          have HZ6 : Hid (RowD wb wa.heap.size 32 zeroD none 0 none 0 none 0) := Lib.hid (by rw [← hwb]; exact Go.heap_alloc_new _ _)
          have hb : Below wa.heap.size wa wb := by rw [← hwb]; exact (Below.refl _ _).alloc (Nat.le_refl _) _
          replace HX := Lib.hid (HX.out.keep hlt hb)
          replace HZ5 := Lib.hid (HZ5.out.keep (size_lt0 HZ5.out.lt) hb)
          replace hbel := below_seq hbel hb
          replace hlt := size_lt hlt hb
          clear hb
          generalize wa.heap.size = k6 at *
          clear hwb
          rename World => wa
          try simp only [Act.put, List.setIfInBounds_toArray, List.set_cons_zero, List.set_cons_succ]
          refine wpAny_ready (rs := [4]) (by kernel_rfl) (by simp) ?_
          refine AllReady.cons rfl (fun K hK => ?_) AllReady.nil
          rw [if_pos (by rfl)]
          refine wp_store_row 32 _ _ rfl k5 _ rfl rfl 32 _ HZ5.out (by kernel_rfl) rfl (dc_one _ _ _ _ _ _ _) ?_
          refine hK _ _ ?_
          clear hK K
          change wpAny _ _ _ _ _ _ (Act.put _ none _) _
          generalize hwb : World.setRow _ _ _ = wb
          have HA5 : Hid (RowD wb k5 32 x A c B d C e) := Lib.hid (by rw [← hwb]; exact RowD.put HZ5.out x A c B d C e)
          replace hbel : Below w.heap.size w wb := by rw [← hwb]; exact belowRow hbel hge5 _
          try clear HX
          try clear hlt
          replace HZ6 : Hid (RowD wb k6 32 zeroD none 0 none 0 none 0) := Lib.hid (by rw [← hwb]; exact (setRow_other _ _ _ _ (by omega)).trans HZ6.out)
          clear hwb
          rename World => wa
          try simp only [Act.put]
          refine wpAny_ready (rs := [5]) (by kernel_rfl) (by simp) ?_
          refine AllReady.cons rfl (fun K hK => ?_) AllReady.nil
          rw [if_pos (by rfl)]
          refine wp_store_row 32 _ _ rfl k6 _ rfl rfl 32 _ HZ6.out (by kernel_rfl) rfl (dc_one _ _ _ _ _ _ _) ?_
          refine hK _ _ ?_
          clear hK K
          change wpAny _ _ _ _ _ _ (Act.put _ none _) _
          generalize hwb : World.setRow _ _ _ = wb
          have HA6 : Hid (RowD wb k6 32 x A c B d C e) := Lib.hid (by rw [← hwb]; exact RowD.put HZ6.out x A c B d C e)
          replace hbel : Below w.heap.size w wb := by rw [← hwb]; exact belowRow hbel hge6 _
          try clear HX
          try clear hlt
          replace HA5 : Hid (RowD wb k5 32 x A c B d C e) := Lib.hid (by rw [← hwb]; exact (setRow_other _ _ _ _ (by omega)).trans HA5.out)
          clear hwb
          rename World => wa
          try simp only [Act.put]
          refine wpAny_done (by kernel_rfl) ?_ _
          go_wp2_with fail
          go_meet
          exact ⟨k5, k6, rfl, rfl, HA5.out, HA6.out, hbel, hge5, hge6, by omega⟩
        · skip
          rw [if_pos (by rfl)]
          go_simp
          refine hK _ _ ?_
          clear hK K
          try simp only [Act.put, List.setIfInBounds_toArray, List.set_cons_zero, List.set_cons_succ]
          have hgt6 := hlt
          have hge6 := Nat.le_of_lt hlt
          generalize hwb : World.alloc _ _ = wb
          have HZ6 : Hid (RowD wb wa.heap.size 32 zeroD none 0 none 0 none 0) := Lib.hid (by rw [← hwb]; exact Go.heap_alloc_new _ _)
          have hb : Below wa.heap.size wa wb := by rw [← hwb]; exact (Below.refl _ _).alloc (Nat.le_refl _) _
          replace HX := Lib.hid (HX.out.keep hlt hb)
          replace hbel := below_seq hbel hb
          replace hlt := size_lt hlt hb
          clear hb
          generalize wa.heap.size = k6 at *
          clear hwb
          rename World => wa
          try simp only [Act.put, List.setIfInBounds_toArray, List.set_cons_zero, List.set_cons_succ]
          refine wpAny_ready (rs := [2]) (by kernel_rfl) (by simp) ?_
          refine AllReady.cons rfl (fun K hK => ?_) AllReady.nil
          rw [if_pos (by rfl)]
          go_simp
          refine hK _ _ ?_
          clear hK K
          try simp only [Act.put, List.setIfInBounds_toArray, List.set_cons_zero, List.set_cons_succ]
          have hgt5 := hlt
          have hge5 := Nat.le_of_lt hlt
          have hne := Nat.ne_of_lt HZ6.out.lt
          generalize hwb : World.alloc _ _ = wb
          have HZ5 : Hid (RowD wb wa.heap.size 32 zeroD none 0 none 0 none 0) := Lib.hid (by rw [← hwb]; exact Go.heap_alloc_new _ _)
          have hb : Below wa.heap.size wa wb := by rw [← hwb]; exact (Below.refl _ _).alloc (Nat.le_refl _) _
          replace HX := Lib.hid (HX.out.keep hlt hb)
          replace HZ6 := Lib.hid (HZ6.out.keep (size_lt0 HZ6.out.lt) hb)
          replace hbel := below_seq hbel hb
          replace hlt := size_lt hlt hb
          clear hb
          generalize wa.heap.size = k5 at *
          clear hwb
          rename World => wa
          try simp only [Act.put, List.setIfInBounds_toArray, List.set_cons_zero, List.set_cons_succ]
          refine wpAny_ready (rs := [4]) (by kernel_rfl) (by simp) ?_
          refine AllReady.cons rfl (fun K hK => ?_) AllReady.nil
          rw [if_pos (by rfl)]
          refine wp_store_row 32 _ _ rfl k5 _ rfl rfl 32 _ HZ5.out (by kernel_rfl) rfl (dc_one _ _ _ _ _ _ _) ?_
          refine hK _ _ ?_
          clear hK K
          change wpAny _ _ _ _ _ _ (Act.put _ none _) _
          generalize hwb : World.setRow _ _ _ = wb
          have HA5 : Hid (RowD wb k5 32 x A c B d C e) := Lib.hid (by rw [← hwb]; exact RowD.put HZ5.out x A c B d C e)
          replace hbel : Below w.heap.size w wb := by rw [← hwb]; exact belowRow hbel hge5 _
          try clear HX
          try clear hlt
          replace HZ6 : Hid (RowD wb k6 32 zeroD none 0 none 0 none 0) := Lib.hid (by rw [← hwb]; exact (setRow_other _ _ _ _ (by omega)).trans HZ6.out)
          clear hwb
          rename World => wa
          try simp only [Act.put]
          refine wpAny_ready (rs := [5]) (by kernel_rfl) (by simp) ?_
          refine AllReady.cons rfl (fun K hK => ?_) AllReady.nil
          rw [if_pos (by rfl)]
          refine wp_store_row 32 _ _ rfl k6 _ rfl rfl 32 _ HZ6.out (by kernel_rfl) rfl (dc_one _ _ _ _ _ _ _) ?_
          refine hK _ _ ?_
          clear hK K
          change wpAny _ _ _ _ _ _ (Act.put _ none _) _
          generalize hwb : World.setRow _ _ _ = wb
          have HA6 : Hid (RowD wb k6 32 x A c B d C e) := Lib.hid (by rw [← hwb]; exact RowD.put HZ6.out x A c B d C e)
          replace hbel : Below w.heap.size w wb := by rw [← hwb]; exact belowRow hbel hge6 _
          try clear HX
          try clear hlt
          replace HA5 : Hid (RowD wb k5 32 x A c B d C e) := Lib.hid (by rw [← hwb]; exact (setRow_other _ _ _ _ (by omega)).trans HA5.out)
          clear hwb
          rename World => wa
          try simp only [Act.put]
          refine wpAny_done (by kernel_rfl) ?_ _
          go_wp2_with fail
          go_meet
          exact ⟨k5, k6, rfl, rfl, HA5.out, HA6.out, hbel, hge5, hge6, by omega⟩
      · skip
        rw [if_pos (by rfl)]
        go_simp
        refine hK _ _ ?_
        clear hK K
        try simp only [Act.put, List.setIfInBounds_toArray, List.set_cons_zero, List.set_cons_succ]
        have hgt5 := hlt
        have hge5 := Nat.le_of_lt hlt
        generalize hwb : World.alloc _ _ = wb
        have HZ5 : Hid (RowD wb wa.heap.size 32 zeroD none 0 none 0 none 0) := Lib.hid (by rw [← hwb]; exact Go.heap_alloc_new _ _)
        have hb : Below wa.heap.size wa wb := by rw [← hwb]; exact (Below.refl _ _).alloc (Nat.le_refl _) _
        replace HX := Lib.hid (HX.out.keep hlt hb)
        replace hbel := below_seq hbel hb
        replace hlt := size_lt hlt hb
        clear hb
        generalize wa.heap.size = k5 at *
        clear hwb
        rename World => wa
        try simp only [Act.put, List.setIfInBounds_toArray, List.set_cons_zero, List.set_cons_succ]
        refine wpAny_ready (rs := [0, 3]) (by kernel_rfl) (by simp) ?_
        refine AllReady.cons rfl (fun K hK => ?_) (AllReady.cons rfl (fun K hK => ?_) AllReady.nil)
        · skip
          rw [if_pos (by rfl)]
          refine wp_load_row 32 _ rfl w.heap.size rfl 32 _ (0, 0) _ HX.out Try.underlying32 rfl (by kernel_rfl) ?_
          refine hK _ _ ?_
          clear hK K
          change wpAny _ _ _ _ _ _ (Act.put _ (some 29) _) _
          try simp only [Act.put, List.setIfInBounds_toArray, List.set_cons_zero, List.set_cons_succ]
          refine wpAny_ready (rs := [3]) (by kernel_rfl) (by simp) ?_
          refine AllReady.cons rfl (fun K hK => ?_) AllReady.nil
          rw [if_pos (by rfl)]
          go_simp
          refine hK _ _ ?_
          clear hK K
          try simp only [Act.put, List.setIfInBounds_toArray, List.set_cons_zero, List.set_cons_succ]
          have hgt6 := hlt
          have hge6 := Nat.le_of_lt hlt
          have hne := Nat.ne_of_lt HZ5.out.lt
          generalize hwb : World.alloc _ _ = wb
          have HZ6 : Hid (RowD wb wa.heap.size 32 zeroD none 0 none 0 none 0) := Lib.hid (by rw [← hwb]; exact Go.heap_alloc_new _ _)
          have hb : Below wa.heap.size wa wb := by rw [← hwb]; exact (Below.refl _ _).alloc (Nat.le_refl _) _
          replace HX := Lib.hid (HX.out.keep hlt hb)
          replace HZ5 := Lib.hid (HZ5.out.keep (size_lt0 HZ5.out.lt) hb)
          replace hbel := below_seq hbel hb
          replace hlt := size_lt hlt hb
          clear hb
          generalize wa.heap.size = k6 at *
          clear hwb
          rename World => wa
          try simp only [Act.put, List.setIfInBounds_toArray, List.set_cons_zero, List.set_cons_succ]
          refine wpAny_ready (rs := [4]) (by kernel_rfl) (by simp) ?_
          refine AllReady.cons rfl (fun K hK => ?_) AllReady.nil
          rw [if_pos (by rfl)]
          refine wp_store_row 32 _ _ rfl k5 _ rfl rfl 32 _ HZ5.out (by kernel_rfl) rfl (dc_one _ _ _ _ _ _ _) ?_
          refine hK _ _ ?_
          clear hK K
          change wpAny _ _ _ _ _ _ (Act.put _ none _) _
          generalize hwb : World.setRow _ _ _ = wb
          have HA5 : Hid (RowD wb k5 32 x A c B d C e) := Lib.hid (by rw [← hwb]; exact RowD.put HZ5.out x A c B d C e)
          replace hbel : Below w.heap.size w wb := by rw [← hwb]; exact belowRow hbel hge5 _
          try clear HX
          try clear hlt
          replace HZ6 : Hid (RowD wb k6 32 zeroD none 0 none 0 none 0) := Lib.hid (by rw [← hwb]; exact (setRow_other _ _ _ _ (by omega)).trans HZ6.out)
          clear hwb
          rename World => wa
          try simp only [Act.put]
          refine wpAny_ready (rs := [5]) (by kernel_rfl) (by simp) ?_
          refine AllReady.cons rfl (fun K hK => ?_) AllReady.nil
          rw [if_pos (by rfl)]
          refine wp_store_row 32 _ _ rfl k6 _ rfl rfl 32 _ HZ6.out (by kernel_rfl) rfl (dc_one _ _ _ _ _ _ _) ?_
          refine hK _ _ ?_
          clear hK K
          change wpAny _ _ _ _ _ _ (Act.put _ none _) _
          generalize hwb : World.setRow _ _ _ = wb
          have HA6 : Hid (RowD wb k6 32 x A c B d C e) := Lib.hid (by rw [← hwb]; exact RowD.put HZ6.out x A c B d C e)
          replace hbel : Below w.heap.size w wb := by rw [← hwb]; exact belowRow hbel hge6 _
          try clear HX
          try clear hlt
          replace HA5 : Hid (RowD wb k5 32 x A c B d C e) := Lib.hid (by rw [← hwb]; exact (setRow_other _ _ _ _ (by omega)).trans HA5.out)
          clear hwb
          rename World => wa
          try simp only [Act.put]
          refine wpAny_done (by kernel_rfl) ?_ _
          go_wp2_with fail
          go_meet
          exact ⟨k5, k6, rfl, rfl, HA5.out, HA6.out, hbel, hge5, hge6, by omega⟩
        · skip
          rw [if_pos (by rfl)]
          go_simp
          refine hK _ _ ?_
          clear hK K
          try simp only [Act.put, List.setIfInBounds_toArray, List.set_cons_zero, List.set_cons_succ]
          have hgt6 := hlt
          have hge6 := Nat.le_of_lt hlt
          have hne := Nat.ne_of_lt HZ5.out.lt
          generalize hwb : World.alloc _ _ = wb
          have HZ6 : Hid (RowD wb wa.heap.size 32 zeroD none 0 none 0 none 0) := Lib.hid (by rw [← hwb]; exact Go.heap_alloc_new _ _)
          have hb : Below wa.heap.size wa wb := by rw [← hwb]; exact (Below.refl _ _).alloc (Nat.le_refl _) _
          replace HX := Lib.hid (HX.out.keep hlt hb)
          replace HZ5 := Lib.hid (HZ5.out.keep (size_lt0 HZ5.out.lt) hb)
          replace hbel := below_seq hbel hb
          replace hlt := size_lt hlt hb
          clear hb
          generalize wa.heap.size = k6 at *
          clear hwb
          rename World => wa
          try simp only [Act.put, List.setIfInBounds_toArray, List.set_cons_zero, List.set_cons_succ]
          refine wpAny_ready (rs := [0]) (by kernel_rfl) (by simp) ?_
          refine AllReady.cons rfl (fun K hK => ?_) AllReady.nil
          rw [if_pos (by rfl)]
          refine wp_load_row 32 _ rfl w.heap.size rfl 32 _ (0, 0) _ HX.out Try.underlying32 rfl (by kernel_rfl) ?_
          refine hK _ _ ?_
          clear hK K
          change wpAny _ _ _ _ _ _ (Act.put _ (some 29) _) _
          try simp only [Act.put, List.setIfInBounds_toArray, List.set_cons_zero, List.set_cons_succ]
          refine wpAny_ready (rs := [4]) (by kernel_rfl) (by simp) ?_
          refine AllReady.cons rfl (fun K hK => ?_) AllReady.nil
          rw [if_pos (by rfl)]
          refine wp_store_row 32 _ _ rfl k5 _ rfl rfl 32 _ HZ5.out (by kernel_rfl) rfl (dc_one _ _ _ _ _ _ _) ?_
          refine hK _ _ ?_
          clear hK K
          change wpAny _ _ _ _ _ _ (Act.put _ none _) _
          generalize hwb : World.setRow _ _ _ = wb
          have HA5 : Hid (RowD wb k5 32 x A c B d C e) := Lib.hid (by rw [← hwb]; exact RowD.put HZ5.out x A c B d C e)
          replace hbel : Below w.heap.size w wb := by rw [← hwb]; exact belowRow hbel hge5 _
          try clear HX
          try clear hlt
          replace HZ6 : Hid (RowD wb k6 32 zeroD none 0 none 0 none 0) := Lib.hid (by rw [← hwb]; exact (setRow_other _ _ _ _ (by omega)).trans HZ6.out)
          clear hwb
          rename World => wa
          try simp only [Act.put]
          refine wpAny_ready (rs := [5]) (by kernel_rfl) (by simp) ?_
          refine AllReady.cons rfl (fun K hK => ?_) AllReady.nil
          rw [if_pos (by rfl)]
          refine wp_store_row 32 _ _ rfl k6 _ rfl rfl 32 _ HZ6.out (by kernel_rfl) rfl (dc_one _ _ _ _ _ _ _) ?_
          refine hK _ _ ?_
          clear hK K
          change wpAny _ _ _ _ _ _ (Act.put _ none _) _
          generalize hwb : World.setRow _ _ _ = wb
          have HA6 : Hid (RowD wb k6 32 x A c B d C e) := Lib.hid (by rw [← hwb]; exact RowD.put HZ6.out x A c B d C e)
          replace hbel : Below w.heap.size w wb := by rw [← hwb]; exact belowRow hbel hge6 _
          try clear HX
          try clear hlt
          replace HA5 : Hid (RowD wb k5 32 x A c B d C e) := Lib.hid (by rw [← hwb]; exact (setRow_other _ _ _ _ (by omega)).trans HA5.out)
          clear hwb
          rename World => wa
          try simp only [Act.put]
          refine wpAny_done (by kernel_rfl) ?_ _
          go_wp2_with fail
          go_meet
          exact ⟨k5, k6, rfl, rfl, HA5.out, HA6.out, hbel, hge5, hge6, by omega⟩
      · skip
        rw [if_pos (by rfl)]
        go_simp
        refine hK _ _ ?_
        clear hK K
        try simp only [Act.put, List.setIfInBounds_toArray, List.set_cons_zero, List.set_cons_succ]
        have hgt6 := hlt
        have hge6 := Nat.le_of_lt hlt
        generalize hwb : World.alloc _ _ = wb
        have HZ6 : Hid (RowD wb wa.heap.size 32 zeroD none 0 none 0 none 0) := Lib.hid (by rw [← hwb]; exact Go.heap_alloc_new _ _)
        have hb : Below wa.heap.size wa wb := by rw [← hwb]; exact (Below.refl _ _).alloc (Nat.le_refl _) _
        replace HX := Lib.hid (HX.out.keep hlt hb)
        replace hbel := below_seq hbel hb
        replace hlt := size_lt hlt hb
        clear hb
        generalize wa.heap.size = k6 at *
        clear hwb
        rename World => wa
        try simp only [Act.put, List.setIfInBounds_toArray, List.set_cons_zero, List.set_cons_succ]
        refine wpAny_ready (rs := [0, 2]) (by kernel_rfl) (by simp) ?_
        refine AllReady.cons rfl (fun K hK => ?_) (AllReady.cons rfl (fun K hK => ?_) AllReady.nil)
        · skip
          rw [if_pos (by rfl)]
          refine wp_load_row 32 _ rfl w.heap.size rfl 32 _ (0, 0) _ HX.out Try.underlying32 rfl (by kernel_rfl) ?_
          refine hK _ _ ?_
          clear hK K
          change wpAny _ _ _ _ _ _ (Act.put _ (some 29) _) _
          try simp only [Act.put, List.setIfInBounds_toArray, List.set_cons_zero, List.set_cons_succ]
          refine wpAny_ready (rs := [2]) (by kernel_rfl) (by simp) ?_
          refine AllReady.cons rfl (fun K hK => ?_) AllReady.nil
          rw [if_pos (by rfl)]
          go_simp
          refine hK _ _ ?_
          clear hK K
          try simp only [Act.put, List.setIfInBounds_toArray, List.set_cons_zero, List.set_cons_succ]
          have hgt5 := hlt
          have hge5 := Nat.le_of_lt hlt
          have hne := Nat.ne_of_lt HZ6.out.lt
          generalize hwb : World.alloc _ _ = wb
          have HZ5 : Hid (RowD wb wa.heap.size 32 zeroD none 0 none 0 none 0) := Lib.hid (by rw [← hwb]; exact Go.heap_alloc_new _ _)
          have hb : Below wa.heap.size wa wb := by rw [← hwb]; exact (Below.refl _ _).alloc (Nat.le_refl _) _
          replace HX := Lib.hid (HX.out.keep hlt hb)
          replace HZ6 := Lib.hid (HZ6.out.keep (size_lt0 HZ6.out.lt) hb)
          replace hbel := below_seq hbel hb
          replace hlt := size_lt hlt hb
          clear hb
          generalize wa.heap.size = k5 at *
          clear hwb
          rename World => wa
          try simp only [Act.put, List.setIfInBounds_toArray, List.set_cons_zero, List.set_cons_succ]
          refine wpAny_ready (rs := [4]) (by kernel_rfl) (by simp) ?_
          refine AllReady.cons rfl (fun K hK => ?_) AllReady.nil
          rw [if_pos (by rfl)]
          refine wp_store_row 32 _ _ rfl k5 _ rfl rfl 32 _ HZ5.out (by kernel_rfl) rfl (dc_one _ _ _ _ _ _ _) ?_
          refine hK _ _ ?_
          clear hK K
          change wpAny _ _ _ _ _ _ (Act.put _ none _) _
          generalize hwb : World.setRow _ _ _ = wb
          have HA5 : Hid (RowD wb k5 32 x A c B d C e) := Lib.hid (by rw [← hwb]; exact RowD.put HZ5.out x A c B d C e)
          replace hbel : Below w.heap.size w wb := by rw [← hwb]; exact belowRow hbel hge5 _
          try clear HX
          try clear hlt
          replace HZ6 : Hid (RowD wb k6 32 zeroD none 0 none 0 none 0) := Lib.hid (by rw [← hwb]; exact (setRow_other _ _ _ _ (by omega)).trans HZ6.out)
          clear hwb
          rename World => wa
          try simp only [Act.put]
          refine wpAny_ready (rs := [5]) (by kernel_rfl) (by simp) ?_
          refine AllReady.cons rfl (fun K hK => ?_) AllReady.nil
          rw [if_pos (by rfl)]
          refine wp_store_row 32 _ _ rfl k6 _ rfl rfl 32 _ HZ6.out (by kernel_rfl) rfl (dc_one _ _ _ _ _ _ _) ?_
          refine hK _ _ ?_
          clear hK K
          change wpAny _ _ _ _ _ _ (Act.put _ none _) _
          generalize hwb : World.setRow _ _ _ = wb
          have HA6 : Hid (RowD wb k6 32 x A c B d C e) := Lib.hid (by rw [← hwb]; exact RowD.put HZ6.out x A c B d C e)
          replace hbel : Below w.heap.size w wb := by rw [← hwb]; exact belowRow hbel hge6 _
          try clear HX
          try clear hlt
          replace HA5 : Hid (RowD wb k5 32 x A c B d C e) := Lib.hid (by rw [← hwb]; exact (setRow_other _ _ _ _ (by omega)).trans HA5.out)
          clear hwb
          rename World => wa
          try simp only [Act.put]
          refine wpAny_done (by kernel_rfl) ?_ _
          go_wp2_with fail
          go_meet
          exact ⟨k5, k6, rfl, rfl, HA5.out, HA6.out, hbel, hge5, hge6, by omega⟩
        · skip
          rw [if_pos (by rfl)]
          go_simp
          refine hK _ _ ?_
          clear hK K
          try simp only [Act.put, List.setIfInBounds_toArray, List.set_cons_zero, List.set_cons_succ]
          have hgt5 := hlt
          have hge5 := Nat.le_of_lt hlt
          have hne := Nat.ne_of_lt HZ6.out.lt
          generalize hwb : World.alloc _ _ = wb
          have HZ5 : Hid (RowD wb wa.heap.size 32 zeroD none 0 none 0 none 0) := Lib.hid (by rw [← hwb]; exact Go.heap_alloc_new _ _)
          have hb : Below wa.heap.size wa wb := by rw [← hwb]; exact (Below.refl _ _).alloc (Nat.le_refl _) _
          replace HX := Lib.hid (HX.out.keep hlt hb)
          replace HZ6 := Lib.hid (HZ6.out.keep (size_lt0 HZ6.out.lt) hb)
          replace hbel := below_seq hbel hb
          replace hlt := size_lt hlt hb
          clear hb
          generalize wa.heap.size = k5 at *
          clear hwb
          rename World => wa
          try simp only [Act.put, List.setIfInBounds_toArray, List.set_cons_zero, List.set_cons_succ]
          refine wpAny_ready (rs := [0]) (by kernel_rfl) (by simp) ?_
          refine AllReady.cons rfl (fun K hK => ?_) AllReady.nil
          rw [if_pos (by rfl)]
          refine wp_load_row 32 _ rfl w.heap.size rfl 32 _ (0, 0) _ HX.out Try.underlying32 rfl (by kernel_rfl) ?_
          refine hK _ _ ?_
          clear hK K
          change wpAny _ _ _ _ _ _ (Act.put _ (some 29) _) _
          try simp only [Act.put, List.setIfInBounds_toArray, List.set_cons_zero, List.set_cons_succ]
          refine wpAny_ready (rs := [4]) (by kernel_rfl) (by simp) ?_
          refine AllReady.cons rfl (fun K hK => ?_) AllReady.nil
          rw [if_pos (by rfl)]
          refine wp_store_row 32 _ _ rfl k5 _ rfl rfl 32 _ HZ5.out (by kernel_rfl) rfl (dc_one _ _ _ _ _ _ _) ?_
          refine hK _ _ ?_
          clear hK K
          change wpAny _ _ _ _ _ _ (Act.put _ none _) _
          generalize hwb : World.setRow _ _ _ = wb
          have HA5 : Hid (RowD wb k5 32 x A c B d C e) := Lib.hid (by rw [← hwb]; exact RowD.put HZ5.out x A c B d C e)
          replace hbel : Below w.heap.size w wb := by rw [← hwb]; exact belowRow hbel hge5 _
          try clear HX
          try clear hlt
          replace HZ6 : Hid (RowD wb k6 32 zeroD none 0 none 0 none 0) := Lib.hid (by rw [← hwb]; exact (setRow_other _ _ _ _ (by omega)).trans HZ6.out)
          clear hwb
          rename World => wa
          try simp only [Act.put]
          refine wpAny_ready (rs := [5]) (by kernel_rfl) (by simp) ?_
          refine AllReady.cons rfl (fun K hK => ?_) AllReady.nil
          rw [if_pos (by rfl)]
          refine wp_store_row 32 _ _ rfl k6 _ rfl rfl 32 _ HZ6.out (by kernel_rfl) rfl (dc_one _ _ _ _ _ _ _) ?_
          refine hK _ _ ?_
          clear hK K
          change wpAny _ _ _ _ _ _ (Act.put _ none _) _
          generalize hwb : World.setRow _ _ _ = wb
          have HA6 : Hid (RowD wb k6 32 x A c B d C e) := Lib.hid (by rw [← hwb]; exact RowD.put HZ6.out x A c B d C e)
          replace hbel : Below w.heap.size w wb := by rw [← hwb]; exact belowRow hbel hge6 _
          try clear HX
          try clear hlt
          replace HA5 : Hid (RowD wb k5 32 x A c B d C e) := Lib.hid (by rw [← hwb]; exact (setRow_other _ _ _ _ (by omega)).trans HA5.out)
          clear hwb
          rename World => wa
          try simp only [Act.put]
          refine wpAny_done (by kernel_rfl) ?_ _
          go_wp2_with fail
          go_meet
          exact ⟨k5, k6, rfl, rfl, HA5.out, HA6.out, hbel, hge5, hge6, by omega⟩
    · skip
      rw [if_pos (by rfl)]
      go_simp
      refine hK _ _ ?_
      clear hK K
      try simp only [Act.put, List.setIfInBounds_toArray, List.set_cons_zero, List.set_cons_succ]
      have hgt5 := hlt
      have hge5 := Nat.le_of_lt hlt
      generalize hwb : World.alloc _ _ = wb
      have HZ5 : Hid (RowD wb wa.heap.size 32 zeroD none 0 none 0 none 0) := Lib.hid (by rw [← hwb]; exact Go.heap_alloc_new _ _)
      have hb : Below wa.heap.size wa wb := by rw [← hwb]; exact (Below.refl _ _).alloc (Nat.le_refl _) _
      replace HX := Lib.hid (HX.out.keep hlt hb)
      replace hbel := below_seq hbel hb
      replace hlt := size_lt hlt hb
      clear hb
      generalize wa.heap.size = k5 at *
      clear hwb
      rename World => wa
      try simp only [Act.put, List.setIfInBounds_toArray, List.set_cons_zero, List.set_cons_succ]
      refine wpAny_ready (rs := [0, 1, 3]) (by kernel_rfl) (by simp) ?_
      refine AllReady.cons rfl (fun K hK => ?_) (AllReady.cons rfl (fun K hK => ?_) (AllReady.cons rfl (fun K hK => ?_) AllReady.nil))
      · skip
        rw [if_pos (by rfl)]
        refine wp_load_row 32 _ rfl w.heap.size rfl 32 _ (0, 0) _ HX.out Try.underlying32 rfl (by kernel_rfl) ?_
        refine hK _ _ ?_
        clear hK K
        change wpAny _ _ _ _ _ _ (Act.put _ (some 29) _) _
        try simp only [Act.put, List.setIfInBounds_toArray, List.set_cons_zero, List.set_cons_succ]
        refine wpAny_ready (rs := [1, 3]) (by kernel_rfl) (by simp) ?_
        refine AllReady.cons rfl (fun K hK => ?_) (AllReady.cons rfl (fun K hK => ?_) AllReady.nil)
        · skip
          rw [if_pos (by rfl)]
          refine wp_load_row 32 _ rfl w.heap.size rfl 32 _ (0, 0) _ HX.out Try.underlying32 rfl (by kernel_rfl) ?_
          refine hK _ _ ?_
          clear hK K
          change wpAny _ _ _ _ _ _ (Act.put _ (some 30) _) _
          try simp only [Act.put, List.setIfInBounds_toArray, List.set_cons_zero, List.set_cons_succ]
          refine wpAny_ready (rs := [3]) (by kernel_rfl) (by simp) ?_
          refine AllReady.cons rfl (fun K hK => ?_) AllReady.nil
          rw [if_pos (by rfl)]
          go_simp
          refine hK _ _ ?_
          clear hK K
          try simp only [Act.put, List.setIfInBounds_toArray, List.set_cons_zero, List.set_cons_succ]
          have hgt6 := hlt
          have hge6 := Nat.le_of_lt hlt
          have hne := Nat.ne_of_lt HZ5.out.lt
          generalize hwb : World.alloc _ _ = wb
          have HZ6 : Hid (RowD wb wa.heap.size 32 zeroD none 0 none 0 none 0) := Lib.hid (by rw [← hwb]; exact Go.heap_alloc_new _ _)
          have hb : Below wa.heap.size wa wb := by rw [← hwb]; exact (Below.refl _ _).alloc (Nat.le_refl _) _
          replace HX := Lib.hid (HX.out.keep hlt hb)
          replace HZ5 := Lib.hid (HZ5.out.keep (size_lt0 HZ5.out.lt) hb)
          replace hbel := below_seq hbel hb
          replace hlt := size_lt hlt hb
          clear hb
          generalize wa.heap.size = k6 at *
          clear hwb
          rename World => wa
          try simp only [Act.put, List.setIfInBounds_toArray, List.set_cons_zero, List.set_cons_succ]
          refine wpAny_ready (rs := [4]) (by kernel_rfl) (by simp) ?_
          refine AllReady.cons rfl (fun K hK => ?_) AllReady.nil
          rw [if_pos (by rfl)]
          refine wp_store_row 32 _ _ rfl k5 _ rfl rfl 32 _ HZ5.out (by kernel_rfl) rfl (dc_one _ _ _ _ _ _ _) ?_
          refine hK _ _ ?_
          clear hK K
          change wpAny _ _ _ _ _ _ (Act.put _ none _) _
          generalize hwb : World.setRow _ _ _ = wb
          have HA5 : Hid (RowD wb k5 32 x A c B d C e) := Lib.hid (by rw [← hwb]; exact RowD.put HZ5.out x A c B d C e)
          replace hbel : Below w.heap.size w wb := by rw [← hwb]; exact belowRow hbel hge5 _
          try clear HX
          try clear hlt
          replace HZ6 : Hid (RowD wb k6 32 zeroD none 0 none 0 none 0) := Lib.hid (by rw [← hwb]; exact (setRow_other _ _ _ _ (by omega)).trans HZ6.out)
          clear hwb
          rename World => wa
          try simp only [Act.put]
          refine wpAny_ready (rs := [5]) (by kernel_rfl) (by simp) ?_
          refine AllReady.cons rfl (fun K hK => ?_) AllReady.nil
          rw [if_pos (by rfl)]
          refine wp_store_row 32 _ _ rfl k6 _ rfl rfl 32 _ HZ6.out (by kernel_rfl) rfl (dc_one _ _ _ _ _ _ _) ?_
          refine hK _ _ ?_
          clear hK K
          change wpAny _ _ _ _ _ _ (Act.put _ none _) _
          generalize hwb : World.setRow _ _ _ = wb
          have HA6 : Hid (RowD wb k6 32 x A c B d C e) := Lib.hid (by rw [← hwb]; exact RowD.put HZ6.out x A c B d C e)
          replace hbel : Below w.heap.size w wb := by rw [← hwb]; exact belowRow hbel hge6 _
          try clear HX
          try clear hlt
          replace HA5 : Hid (RowD wb k5 32 x A c B d C e) := Lib.hid (by rw [← hwb]; exact (setRow_other _ _ _ _ (by omega)).trans HA5.out)
          clear hwb
          rename World => wa
          try simp only [Act.put]
          refine wpAny_done (by kernel_rfl) ?_ _
          go_wp2_with fail
          go_meet
          exact ⟨k5, k6, rfl, rfl, HA5.out, HA6.out, hbel, hge5, hge6, by omega⟩
        · skip
          rw [if_pos (by rfl)]
          go_simp
          refine hK _ _ ?_
          clear hK K
          try simp only [Act.put, List.setIfInBounds_toArray, List.set_cons_zero, List.set_cons_succ]
          have hgt6 := hlt
          have hge6 := Nat.le_of_lt hlt
          have hne := Nat.ne_of_lt HZ5.out.lt
          generalize hwb : World.alloc _ _ = wb
          have HZ6 : Hid (RowD wb wa.heap.size 32 zeroD none 0 none 0 none 0) := Lib.hid (by rw [← hwb]; exact Go.heap_alloc_new _ _)
          have hb : Below wa.heap.size wa wb := by rw [← hwb]; exact (Below.refl _ _).alloc (Nat.le_refl _) _
          replace HX := Lib.hid (HX.out.keep hlt hb)
          replace HZ5 := Lib.hid (HZ5.out.keep (size_lt0 HZ5.out.lt) hb)
          replace hbel := below_seq hbel hb
          replace hlt := size_lt hlt hb
          clear hb
          generalize wa.heap.size = k6 at *
          clear hwb
          rename World => wa
          try simp only [Act.put, List.setIfInBounds_toArray, List.set_cons_zero, List.set_cons_succ]
          refine wpAny_ready (rs := [1, 4]) (by kernel_rfl) (by simp) ?_
          refine AllReady.cons rfl (fun K hK => ?_) (AllReady.cons rfl (fun K hK => ?_) AllReady.nil)
          · skip
            rw [if_pos (by rfl)]
            refine wp_load_row 32 _ rfl w.heap.size rfl 32 _ (0, 0) _ HX.out Try.underlying32 rfl (by kernel_rfl) ?_
            refine hK _ _ ?_
            clear hK K
            change wpAny _ _ _ _ _ _ (Act.put _ (some 30) _) _
            try simp only [Act.put, List.setIfInBounds_toArray, List.set_cons_zero, List.set_cons_succ]
            refine wpAny_ready (rs := [4]) (by kernel_rfl) (by simp) ?_
            refine AllReady.cons rfl (fun K hK => ?_) AllReady.nil
            rw [if_pos (by rfl)]
            refine wp_store_row 32 _ _ rfl k5 _ rfl rfl 32 _ HZ5.out (by kernel_rfl) rfl (dc_one _ _ _ _ _ _ _) ?_
            refine hK _ _ ?_
            clear hK K
            change wpAny _ _ _ _ _ _ (Act.put _ none _) _
            generalize hwb : World.setRow _ _ _ = wb
            have HA5 : Hid (RowD wb k5 32 x A c B d C e) := Lib.hid (by rw [← hwb]; exact RowD.put HZ5.out x A c B d C e)
            replace hbel : Below w.heap.size w wb := by rw [← hwb]; exact belowRow hbel hge5 _
            try clear HX
            try clear hlt
            replace HZ6 : Hid (RowD wb k6 32 zeroD none 0 none 0 none 0) := Lib.hid (by rw [← hwb]; exact (setRow_other _ _ _ _ (by omega)).trans HZ6.out)
            clear hwb
            rename World => wa
            try simp only [Act.put]
            refine wpAny_ready (rs := [5]) (by kernel_rfl) (by simp) ?_
            refine AllReady.cons rfl (fun K hK => ?_) AllReady.nil
            rw [if_pos (by rfl)]
            refine wp_store_row 32 _ _ rfl k6 _ rfl rfl 32 _ HZ6.out (by kernel_rfl) rfl (dc_one _ _ _ _ _ _ _) ?_
            refine hK _ _ ?_
            clear hK K
            change wpAny _ _ _ _ _ _ (Act.put _ none _) _
            generalize hwb : World.setRow _ _ _ = wb
            have HA6 : Hid (RowD wb k6 32 x A c B d C e) := Lib.hid (by rw [← hwb]; exact RowD.put HZ6.out x A c B d C e)
            replace hbel : Below w.heap.size w wb := by rw [← hwb]; exact belowRow hbel hge6 _
            try clear HX
            try clear hlt
            replace HA5 : Hid (RowD wb k5 32 x A c B d C e) := Lib.hid (by rw [← hwb]; exact (setRow_other _ _ _ _ (by omega)).trans HA5.out)
            clear hwb
            rename World => wa
            try simp only [Act.put]
            refine wpAny_done (by kernel_rfl) ?_ _
            go_wp2_with fail
            go_meet
            exact ⟨k5, k6, rfl, rfl, HA5.out, HA6.out, hbel, hge5, hge6, by omega⟩
          · skip
            rw [if_pos (by rfl)]
            refine wp_store_row 32 _ _ rfl k5 _ rfl rfl 32 _ HZ5.out (by kernel_rfl) rfl (dc_one _ _ _ _ _ _ _) ?_
            refine hK _ _ ?_
            clear hK K
            change wpAny _ _ _ _ _ _ (Act.put _ none _) _
            generalize hwb : World.setRow _ _ _ = wb
            have HA5 : Hid (RowD wb k5 32 x A c B d C e) := Lib.hid (by rw [← hwb]; exact RowD.put HZ5.out x A c B d C e)
            replace hbel : Below w.heap.size w wb := by rw [← hwb]; exact belowRow hbel hge5 _
            replace HX := Lib.hid (show RowD wb w.heap.size 32 x A c B d C e by rw [← hwb]; exact (setRow_other _ _ _ _ (by omega)).trans HX.out)
            try clear hlt
            replace HZ6 : Hid (RowD wb k6 32 zeroD none 0 none 0 none 0) := Lib.hid (by rw [← hwb]; exact (setRow_other _ _ _ _ (by omega)).trans HZ6.out)
            clear hwb
            rename World => wa
            try simp only [Act.put]
            refine wpAny_ready (rs := [1]) (by kernel_rfl) (by simp) ?_
            refine AllReady.cons rfl (fun K hK => ?_) AllReady.nil
            rw [if_pos (by rfl)]
            refine wp_load_row 32 _ rfl w.heap.size rfl 32 _ (0, 0) _ HX.out Try.underlying32 rfl (by kernel_rfl) ?_
            refine hK _ _ ?_
            clear hK K
            change wpAny _ _ _ _ _ _ (Act.put _ (some 30) _) _
            try simp only [Act.put, List.setIfInBounds_toArray, List.set_cons_zero, List.set_cons_succ]
            refine wpAny_ready (rs := [5]) (by kernel_rfl) (by simp) ?_
            refine AllReady.cons rfl (fun K hK => ?_) AllReady.nil
            rw [if_pos (by rfl)]
            refine wp_store_row 32 _ _ rfl k6 _ rfl rfl 32 _ HZ6.out (by kernel_rfl) rfl (dc_one _ _ _ _ _ _ _) ?_
            refine hK _ _ ?_
            clear hK K
            change wpAny _ _ _ _ _ _ (Act.put _ none _) _
            generalize hwb : World.setRow _ _ _ = wb
            have HA6 : Hid (RowD wb k6 32 x A c B d C e) := Lib.hid (by rw [← hwb]; exact RowD.put HZ6.out x A c B d C e)
            replace hbel : Below w.heap.size w wb := by rw [← hwb]; exact belowRow hbel hge6 _
            try clear HX
            try clear hlt
            replace HA5 : Hid (RowD wb k5 32 x A c B d C e) := Lib.hid (by rw [← hwb]; exact (setRow_other _ _ _ _ (by omega)).trans HA5.out)
            clear hwb
            rename World => wa
            try simp only [Act.put]
            refine wpAny_done (by kernel_rfl) ?_ _
            go_wp2_with fail
            go_meet
            exact ⟨k5, k6, rfl, rfl, HA5.out, HA6.out, hbel, hge5, hge6, by omega⟩
      · skip
        rw [if_pos (by rfl)]
        refine wp_load_row 32 _ rfl w.heap.size rfl 32 _ (0, 0) _ HX.out Try.underlying32 rfl (by kernel_rfl) ?_
        refine hK _ _ ?_
        clear hK K
        change wpAny _ _ _ _ _ _ (Act.put _ (some 30) _) _
        try simp only [Act.put, List.setIfInBounds_toArray, List.set_cons_zero, List.set_cons_succ]
        refine wpAny_ready (rs := [0, 3]) (by kernel_rfl) (by simp) ?_
        refine AllReady.cons rfl (fun K hK => ?_) (AllReady.cons rfl (fun K hK => ?_) AllReady.nil)
        · skip
          rw [if_pos (by rfl)]
          refine wp_load_row 32 _ rfl w.heap.size rfl 32 _ (0, 0) _ HX.out Try.underlying32 rfl (by kernel_rfl) ?_
          refine hK _ _ ?_
          clear hK K
          change wpAny _ _ _ _ _ _ (Act.put _ (some 29) _) _
          try simp only [Act.put, List.setIfInBounds_toArray, List.set_cons_zero, List.set_cons_succ]
          refine wpAny_ready (rs := [3]) (by kernel_rfl) (by simp) ?_
          refine AllReady.cons rfl (fun K hK => ?_) AllReady.nil
          rw [if_pos (by rfl)]
          go_simp
          refine hK _ _ ?_
          clear hK K
          try simp only [Act.put, List.setIfInBounds_toArray, List.set_cons_zero, List.set_cons_succ]
          have hgt6 := hlt
          have hge6 := Nat.le_of_lt hlt
          have hne := Nat.ne_of_lt HZ5.out.lt
          generalize hwb : World.alloc _ _ = wb
          have HZ6 : Hid (RowD wb wa.heap.size 32 zeroD none 0 none 0 none 0) := Lib.hid (by rw [← hwb]; exact Go.heap_alloc_new _ _)
          have hb : Below wa.heap.size wa wb := by rw [← hwb]; exact (Below.refl _ _).alloc (Nat.le_refl _) _
          replace HX := Lib.hid (HX.out.keep hlt hb)
          replace HZ5 := Lib.hid (HZ5.out.keep (size_lt0 HZ5.out.lt) hb)
          replace hbel := below_seq hbel hb
          replace hlt := size_lt hlt hb
          clear hb
          generalize wa.heap.size = k6 at *
          clear hwb
          rename World => wa
          try simp only [Act.put, List.setIfInBounds_toArray, List.set_cons_zero, List.set_cons_succ]
          refine wpAny_ready (rs := [4]) (by kernel_rfl) (by simp) ?_
          refine AllReady.cons rfl (fun K hK => ?_) AllReady.nil
          rw [if_pos (by rfl)]
          refine wp_store_row 32 _ _ rfl k5 _ rfl rfl 32 _ HZ5.out (by kernel_rfl) rfl (dc_one _ _ _ _ _ _ _) ?_
          refine hK _ _ ?_
          clear hK K
          change wpAny _ _ _ _ _ _ (Act.put _ none _) _
          generalize hwb : World.setRow _ _ _ = wb
          have HA5 : Hid (RowD wb k5 32 x A c B d C e) := Lib.hid (by rw [← hwb]; exact RowD.put HZ5.out x A c B d C e)
          replace hbel : Below w.heap.size w wb := by rw [← hwb]; exact belowRow hbel hge5 _
          try clear HX
          try clear hlt
          replace HZ6 : Hid (RowD wb k6 32 zeroD none 0 none 0 none 0) := Lib.hid (by rw [← hwb]; exact (setRow_other _ _ _ _ (by omega)).trans HZ6.out)
          clear hwb
          rename World => wa
          try simp only [Act.put]
          refine wpAny_ready (rs := [5]) (by kernel_rfl) (by simp) ?_
          refine AllReady.cons rfl (fun K hK => ?_) AllReady.nil
          rw [if_pos (by rfl)]
          refine wp_store_row 32 _ _ rfl k6 _ rfl rfl 32 _ HZ6.out (by kernel_rfl) rfl (dc_one _ _ _ _ _ _ _) ?_
          refine hK _ _ ?_
          clear hK K
          change wpAny _ _ _ _ _ _ (Act.put _ none _) _
          generalize hwb : World.setRow _ _ _ = wb
          have HA6 : Hid (RowD wb k6 32 x A c B d C e) := Lib.hid (by rw [← hwb]; exact RowD.put HZ6.out x A c B d C e)
          replace hbel : Below w.heap.size w wb := by rw [← hwb]; exact belowRow hbel hge6 _
          try clear HX
          try clear hlt
          replace HA5 : Hid (RowD wb k5 32 x A c B d C e) := Lib.hid (by rw [← hwb]; exact (setRow_other _ _ _ _ (by omega)).trans HA5.out)
          clear hwb
          rename World => wa
          try simp only [Act.put]
          refine wpAny_done (by kernel_rfl) ?_ _
          go_wp2_with fail
          go_meet
          exact ⟨k5, k6, rfl, rfl, HA5.out, HA6.out, hbel, hge5, hge6, by omega⟩
        · skip
          rw [if_pos (by rfl)]
          go_simp
          refine hK _ _ ?_
          clear hK K
          try simp only [Act.put, List.setIfInBounds_toArray, List.set_cons_zero, List.set_cons_succ]
          have hgt6 := hlt
          have hge6 := Nat.le_of_lt hlt
          have hne := Nat.ne_of_lt HZ5.out.lt
          generalize hwb : World.alloc _ _ = wb
          have HZ6 : Hid (RowD wb wa.heap.size 32 zeroD none 0 none 0 none 0) := Lib.hid (by rw [← hwb]; exact Go.heap_alloc_new _ _)
          have hb : Below wa.heap.size wa wb := by rw [← hwb]; exact (Below.refl _ _).alloc (Nat.le_refl _) _
          replace HX := Lib.hid (HX.out.keep hlt hb)
          replace HZ5 := Lib.hid (HZ5.out.keep (size_lt0 HZ5.out.lt) hb)
          replace hbel := below_seq hbel hb
          replace hlt := size_lt hlt hb
          clear hb
          generalize wa.heap.size = k6 at *
          clear hwb
          rename World => wa
          try simp only [Act.put, List.setIfInBounds_toArray, List.set_cons_zero, List.set_cons_succ]
          refine wpAny_ready (rs := [0]) (by kernel_rfl) (by simp) ?_
          refine AllReady.cons rfl (fun K hK => ?_) AllReady.nil
          rw [if_pos (by rfl)]
          refine wp_load_row 32 _ rfl w.heap.size rfl 32 _ (0, 0) _ HX.out Try.underlying32 rfl (by kernel_rfl) ?_
          refine hK _ _ ?_
          clear hK K
          change wpAny _ _ _ _ _ _ (Act.put _ (some 29) _) _
          try simp only [Act.put, List.setIfInBounds_toArray, List.set_cons_zero, List.set_cons_succ]
          refine wpAny_ready (rs := [4]) (by kernel_rfl) (by simp) ?_
          refine AllReady.cons rfl (fun K hK => ?_) AllReady.nil
          rw [if_pos (by rfl)]
          refine wp_store_row 32 _ _ rfl k5 _ rfl rfl 32 _ HZ5.out (by kernel_rfl) rfl (dc_one _ _ _ _ _ _ _) ?_
          refine hK _ _ ?_
          clear hK K
          change wpAny _ _ _ _ _ _ (Act.put _ none _) _
          generalize hwb : World.setRow _ _ _ = wb
          have HA5 : Hid (RowD wb k5 32 x A c B d C e) := Lib.hid (by rw [← hwb]; exact RowD.put HZ5.out x A c B d C e)
          replace hbel : Below w.heap.size w wb := by rw [← hwb]; exact belowRow hbel hge5 _
          try clear HX
          try clear hlt
          replace HZ6 : Hid (RowD wb k6 32 zeroD none 0 none 0 none 0) := Lib.hid (by rw [← hwb]; exact (setRow_other _ _ _ _ (by omega)).trans HZ6.out)
          clear hwb
          rename World => wa
          try simp only [Act.put]
          refine wpAny_ready (rs := [5]) (by kernel_rfl) (by simp) ?_
          refine AllReady.cons rfl (fun K hK => ?_) AllReady.nil
          rw [if_pos (by rfl)]
          refine wp_store_row 32 _ _ rfl k6 _ rfl rfl 32 _ HZ6.out (by kernel_rfl) rfl (dc_one _ _ _ _ _ _ _) ?_
          refine hK _ _ ?_
          clear hK K
          change wpAny _ _ _ _ _ _ (Act.put _ none _) _
          generalize hwb : World.setRow _ _ _ = wb
          have HA6 : Hid (RowD wb k6 32 x A c B d C e) := Lib.hid (by rw [← hwb]; exact RowD.put HZ6.out x A c B d C e)
          replace hbel : Below w.heap.size w wb := by rw [← hwb]; exact belowRow hbel hge6 _
          try clear HX
          try clear hlt
          replace HA5 : Hid (RowD wb k5 32 x A c B d C e) := Lib.hid (by rw [← hwb]; exact (setRow_other _ _ _ _ (by omega)).trans HA5.out)
          clear hwb
          rename World => wa
          try simp only [Act.put]
          refine wpAny_done (by kernel_rfl) ?_ _
          go_wp2_with fail
          go_meet
          exact ⟨k5, k6, rfl, rfl, HA5.out, HA6.out, hbel, hge5, hge6, by omega⟩
      · skip
        rw [if_pos (by rfl)]
        go_simp
        refine hK _ _ ?_
        clear hK K
        try simp only [Act.put, List.setIfInBounds_toArray, List.set_cons_zero, List.set_cons_succ]
        have hgt6 := hlt
        have hge6 := Nat.le_of_lt hlt
        have hne := Nat.ne_of_lt HZ5.out.lt
        generalize hwb : World.alloc _ _ = wb
        have HZ6 : Hid (RowD wb wa.heap.size 32 zeroD none 0 none 0 none 0) := Lib.hid (by rw [← hwb]; exact Go.heap_alloc_new _ _)
        have hb : Below wa.heap.size wa wb := by rw [← hwb]; exact (Below.refl _ _).alloc (Nat.le_refl _) _
        replace HX := Lib.hid (HX.out.keep hlt hb)
        replace HZ5 := Lib.hid (HZ5.out.keep (size_lt0 HZ5.out.lt) hb)
        replace hbel := below_seq hbel hb
        replace hlt := size_lt hlt hb
        clear hb
        generalize wa.heap.size = k6 at *
        clear hwb
        rename World => wa
        try simp only [Act.put, List.setIfInBounds_toArray, List.set_cons_zero, List.set_cons_succ]
        refine wpAny_ready (rs := [0, 1]) (by kernel_rfl) (by simp) ?_
        refine AllReady.cons rfl (fun K hK => ?_) (AllReady.cons rfl (fun K hK => ?_) AllReady.nil)
        · skip
          rw [if_pos (by rfl)]
          refine wp_load_row 32 _ rfl w.heap.size rfl 32 _ (0, 0) _ HX.out Try.underlying32 rfl (by kernel_rfl) ?_
          refine hK _ _ ?_
          clear hK K
          change wpAny _ _ _ _ _ _ (Act.put _ (some 29) _) _
          try simp only [Act.put, List.setIfInBounds_toArray, List.set_cons_zero, List.set_cons_succ]
          refine wpAny_ready (rs := [1, 4]) (by kernel_rfl) (by simp) ?_
          refine AllReady.cons rfl (fun K hK => ?_) (AllReady.cons rfl (fun K hK => ?_) AllReady.nil)
          · skip
            rw [if_pos (by rfl)]
            refine wp_load_row 32 _ rfl w.heap.size rfl 32 _ (0, 0) _ HX.out Try.underlying32 rfl (by kernel_rfl) ?_
            refine hK _ _ ?_
            clear hK K
            change wpAny _ _ _ _ _ _ (Act.put _ (some 30) _) _
            try simp only [Act.put, List.setIfInBounds_toArray, List.set_cons_zero, List.set_cons_succ]
            refine wpAny_ready (rs := [4]) (by kernel_rfl) (by simp) ?_
            refine AllReady.cons rfl (fun K hK => ?_) AllReady.nil
            rw [if_pos (by rfl)]
            refine wp_store_row 32 _ _ rfl k5 _ rfl rfl 32 _ HZ5.out (by kernel_rfl) rfl (dc_one _ _ _ _ _ _ _) ?_
            refine hK _ _ ?_
            clear hK K
            change wpAny _ _ _ _ _ _ (Act.put _ none _) _
            generalize hwb : World.setRow _ _ _ = wb
            have HA5 : Hid (RowD wb k5 32 x A c B d C e) := Lib.hid (by rw [← hwb]; exact RowD.put HZ5.out x A c B d C e)
            replace hbel : Below w.heap.size w wb := by rw [← hwb]; exact belowRow hbel hge5 _
            try clear HX
            try clear hlt
            replace HZ6 : Hid (RowD wb k6 32 zeroD none 0 none 0 none 0) := Lib.hid (by rw [← hwb]; exact (setRow_other _ _ _ _ (by omega)).trans HZ6.out)
            clear hwb
            rename World => wa
            try simp only [Act.put]
            refine wpAny_ready (rs := [5]) (by kernel_rfl) (by simp) ?_
            refine AllReady.cons rfl (fun K hK => ?_) AllReady.nil
            rw [if_pos (by rfl)]
            refine wp_store_row 32 _ _ rfl k6 _ rfl rfl 32 _ HZ6.out (by kernel_rfl) rfl (dc_one _ _ _ _ _ _ _) ?_
            refine hK _ _ ?_
            clear hK K
            change wpAny _ _ _ _ _ _ (Act.put _ none _) _
            generalize hwb : World.setRow _ _ _ = wb
            have HA6 : Hid (RowD wb k6 32 x A c B d C e) := Lib.hid (by rw [← hwb]; exact RowD.put HZ6.out x A c B d C e)
            replace hbel : Below w.heap.size w wb := by rw [← hwb]; exact belowRow hbel hge6 _
            try clear HX
            try clear hlt
            replace HA5 : Hid (RowD wb k5 32 x A c B d C e) := Lib.hid (by rw [← hwb]; exact (setRow_other _ _ _ _ (by omega)).trans HA5.out)
            clear hwb
            rename World => wa
            try simp only [Act.put]
            refine wpAny_done (by kernel_rfl) ?_ _
            go_wp2_with fail
            go_meet
            exact ⟨k5, k6, rfl, rfl, HA5.out, HA6.out, hbel, hge5, hge6, by omega⟩
          · skip
            rw [if_pos (by rfl)]
            refine wp_store_row 32 _ _ rfl k5 _ rfl rfl 32 _ HZ5.out (by kernel_rfl) rfl (dc_one _ _ _ _ _ _ _) ?_
            refine hK _ _ ?_
            clear hK K
            change wpAny _ _ _ _ _ _ (Act.put _ none _) _
            generalize hwb : World.setRow _ _ _ = wb
            have HA5 : Hid (RowD wb k5 32 x A c B d C e) := Lib.hid (by rw [← hwb]; exact RowD.put HZ5.out x A c B d C e)
            replace hbel : Below w.heap.size w wb := by rw [← hwb]; exact belowRow hbel hge5 _
            replace HX := Lib.hid (show RowD wb w.heap.size 32 x A c B d C e by rw [← hwb]; exact (setRow_other _ _ _ _ (by omega)).trans HX.out)
            try clear hlt
            replace HZ6 : Hid (RowD wb k6 32 zeroD none 0 none 0 none 0) := Lib.hid (by rw [← hwb]; exact (setRow_other _ _ _ _ (by omega)).trans HZ6.out)
            clear hwb
            rename World => wa
            try simp only [Act.put]
            refine wpAny_ready (rs := [1]) (by kernel_rfl) (by simp) ?_
            refine AllReady.cons rfl (fun K hK => ?_) AllReady.nil
            rw [if_pos (by rfl)]
            refine wp_load_row 32 _ rfl w.heap.size rfl 32 _ (0, 0) _ HX.out Try.underlying32 rfl (by kernel_rfl) ?_
            refine hK _ _ ?_
            clear hK K
            change wpAny _ _ _ _ _ _ (Act.put _ (some 30) _) _
            try simp only [Act.put, List.setIfInBounds_toArray, List.set_cons_zero, List.set_cons_succ]
            refine wpAny_ready (rs := [5]) (by kernel_rfl) (by simp) ?_
            refine AllReady.cons rfl (fun K hK => ?_) AllReady.nil
            rw [if_pos (by rfl)]
            refine wp_store_row 32 _ _ rfl k6 _ rfl rfl 32 _ HZ6.out (by kernel_rfl) rfl (dc_one _ _ _ _ _ _ _) ?_
            refine hK _ _ ?_
            clear hK K
            change wpAny _ _ _ _ _ _ (Act.put _ none _) _
            generalize hwb : World.setRow _ _ _ = wb
            have HA6 : Hid (RowD wb k6 32 x A c B d C e) := Lib.hid (by rw [← hwb]; exact RowD.put HZ6.out x A c B d C e)
            replace hbel : Below w.heap.size w wb := by rw [← hwb]; exact belowRow hbel hge6 _
            try clear HX
            try clear hlt
            replace HA5 : Hid (RowD wb k5 32 x A c B d C e) := Lib.hid (by rw [← hwb]; exact (setRow_other _ _ _ _ (by omega)).trans HA5.out)
            clear hwb
            rename World => wa
            try simp only [Act.put]
            refine wpAny_done (by kernel_rfl) ?_ _
            go_wp2_with fail
            go_meet
            exact ⟨k5, k6, rfl, rfl, HA5.out, HA6.out, hbel, hge5, hge6, by omega⟩
        · skip
          rw [if_pos (by rfl)]
          refine wp_load_row 32 _ rfl w.heap.size rfl 32 _ (0, 0) _ HX.out Try.underlying32 rfl (by kernel_rfl) ?_
          refine hK _ _ ?_
          clear hK K
          change wpAny _ _ _ _ _ _ (Act.put _ (some 30) _) _
          try simp only [Act.put, List.setIfInBounds_toArray, List.set_cons_zero, List.set_cons_succ]
          refine wpAny_ready (rs := [0]) (by kernel_rfl) (by simp) ?_
          refine AllReady.cons rfl (fun K hK => ?_) AllReady.nil
          rw [if_pos (by rfl)]
          refine wp_load_row 32 _ rfl w.heap.size rfl 32 _ (0, 0) _ HX.out Try.underlying32 rfl (by kernel_rfl) ?_
          refine hK _ _ ?_
          clear hK K
          change wpAny _ _ _ _ _ _ (Act.put _ (some 29) _) _
          try simp only [Act.put, List.setIfInBounds_toArray, List.set_cons_zero, List.set_cons_succ]
          refine wpAny_ready (rs := [4]) (by kernel_rfl) (by simp) ?_
          refine AllReady.cons rfl (fun K hK => ?_) AllReady.nil
          rw [if_pos (by rfl)]
          refine wp_store_row 32 _ _ rfl k5 _ rfl rfl 32 _ HZ5.out (by kernel_rfl) rfl (dc_one _ _ _ _ _ _ _) ?_
          refine hK _ _ ?_
          clear hK K
          change wpAny _ _ _ _ _ _ (Act.put _ none _) _
          generalize hwb : World.setRow _ _ _ = wb
          have HA5 : Hid (RowD wb k5 32 x A c B d C e) := Lib.hid (by rw [← hwb]; exact RowD.put HZ5.out x A c B d C e)
          replace hbel : Below w.heap.size w wb := by rw [← hwb]; exact belowRow hbel hge5 _
          try clear HX
          try clear hlt
          replace HZ6 : Hid (RowD wb k6 32 zeroD none 0 none 0 none 0) := Lib.hid (by rw [← hwb]; exact (setRow_other _ _ _ _ (by omega)).trans HZ6.out)
          clear hwb
          rename World => wa
          try simp only [Act.put]
          refine wpAny_ready (rs := [5]) (by kernel_rfl) (by simp) ?_
          refine AllReady.cons rfl (fun K hK => ?_) AllReady.nil
          rw [if_pos (by rfl)]
          refine wp_store_row 32 _ _ rfl k6 _ rfl rfl 32 _ HZ6.out (by kernel_rfl) rfl (dc_one _ _ _ _ _ _ _) ?_
          refine hK _ _ ?_
          clear hK K
          change wpAny _ _ _ _ _ _ (Act.put _ none _) _
          generalize hwb : World.setRow _ _ _ = wb
          have HA6 : Hid (RowD wb k6 32 x A c B d C e) := Lib.hid (by rw [← hwb]; exact RowD.put HZ6.out x A c B d C e)
          replace hbel : Below w.heap.size w wb := by rw [← hwb]; exact belowRow hbel hge6 _
          try clear HX
          try clear hlt
          replace HA5 : Hid (RowD wb k5 32 x A c B d C e) := Lib.hid (by rw [← hwb]; exact (setRow_other _ _ _ _ (by omega)).trans HA5.out)
          clear hwb
          rename World => wa
          try simp only [Act.put]
          refine wpAny_done (by kernel_rfl) ?_ _
          go_wp2_with fail
          go_meet
          exact ⟨k5, k6, rfl, rfl, HA5.out, HA6.out, hbel, hge5, hge6, by omega⟩
    · skip
      rw [if_pos (by rfl)]
      go_simp
      refine hK _ _ ?_
      clear hK K
      try simp only [Act.put, List.setIfInBounds_toArray, List.set_cons_zero, List.set_cons_succ]
      have hgt6 := hlt
      have hge6 := Nat.le_of_lt hlt
      generalize hwb : World.alloc _ _ = wb
      have HZ6 : Hid (RowD wb wa.heap.size 32 zeroD none 0 none 0 none 0) := Lib.hid (by rw [← hwb]; exact Go.heap_alloc_new _ _)
      have hb : Below wa.heap.size wa wb := by rw [← hwb]; exact (Below.refl _ _).alloc (Nat.le_refl _) _
      replace HX := Lib.hid (HX.out.keep hlt hb)
      replace hbel := below_seq hbel hb
      replace hlt := size_lt hlt hb
      clear hb
      generalize wa.heap.size = k6 at *
      clear hwb
      rename World => wa
      try simp only [Act.put, List.setIfInBounds_toArray, List.set_cons_zero, List.set_cons_succ]
      refine wpAny_ready (rs := [0, 1, 2]) (by kernel_rfl) (by simp) ?_
      refine AllReady.cons rfl (fun K hK => ?_) (AllReady.cons rfl (fun K hK => ?_) (AllReady.cons rfl (fun K hK => ?_) AllReady.nil))
      · skip
        rw [if_pos (by rfl)]
        refine wp_load_row 32 _ rfl w.heap.size rfl 32 _ (0, 0) _ HX.out Try.underlying32 rfl (by kernel_rfl) ?_
        refine hK _ _ ?_
        clear hK K
        change wpAny _ _ _ _ _ _ (Act.put _ (some 29) _) _
        try simp only [Act.put, List.setIfInBounds_toArray, List.set_cons_zero, List.set_cons_succ]
        refine wpAny_ready (rs := [1, 2]) (by kernel_rfl) (by simp) ?_
        refine AllReady.cons rfl (fun K hK => ?_) (AllReady.cons rfl (fun K hK => ?_) AllReady.nil)
        · skip
          rw [if_pos (by rfl)]
          refine wp_load_row 32 _ rfl w.heap.size rfl 32 _ (0, 0) _ HX.out Try.underlying32 rfl (by kernel_rfl) ?_
          refine hK _ _ ?_
          clear hK K
          change wpAny _ _ _ _ _ _ (Act.put _ (some 30) _) _
          try simp only [Act.put, List.setIfInBounds_toArray, List.set_cons_zero, List.set_cons_succ]
          refine wpAny_ready (rs := [2]) (by kernel_rfl) (by simp) ?_
          refine AllReady.cons rfl (fun K hK => ?_) AllReady.nil
          rw [if_pos (by rfl)]
          go_simp
          refine hK _ _ ?_
          clear hK K
          try simp only [Act.put, List.setIfInBounds_toArray, List.set_cons_zero, List.set_cons_succ]
          have hgt5 := hlt
          have hge5 := Nat.le_of_lt hlt
          have hne := Nat.ne_of_lt HZ6.out.lt
          generalize hwb : World.alloc _ _ = wb
          have HZ5 : Hid (RowD wb wa.heap.size 32 zeroD none 0 none 0 none 0) := Lib.hid (by rw [← hwb]; exact Go.heap_alloc_new _ _)
          have hb : Below wa.heap.size wa wb := by rw [← hwb]; exact (Below.refl _ _).alloc (Nat.le_refl _) _
          replace HX := Lib.hid (HX.out.keep hlt hb)
          replace HZ6 := Lib.hid (HZ6.out.keep (size_lt0 HZ6.out.lt) hb)
          replace hbel := below_seq hbel hb
          replace hlt := size_lt hlt hb
          clear hb
          generalize wa.heap.size = k5 at *
          clear hwb
          rename World => wa
          try simp only [Act.put, List.setIfInBounds_toArray, List.set_cons_zero, List.set_cons_succ]
          refine wpAny_ready (rs := [4]) (by kernel_rfl) (by simp) ?_
          refine AllReady.cons rfl (fun K hK => ?_) AllReady.nil
          rw [if_pos (by rfl)]
          refine wp_store_row 32 _ _ rfl k5 _ rfl rfl 32 _ HZ5.out (by kernel_rfl) rfl (dc_one _ _ _ _ _ _ _) ?_
          refine hK _ _ ?_
          clear hK K
          change wpAny _ _ _ _ _ _ (Act.put _ none _) _
          generalize hwb : World.setRow _ _ _ = wb
          have HA5 : Hid (RowD wb k5 32 x A c B d C e) := Lib.hid (by rw [← hwb]; exact RowD.put HZ5.out x A c B d C e)
          replace hbel : Below w.heap.size w wb := by rw [← hwb]; exact belowRow hbel hge5 _
          try clear HX
          try clear hlt
          replace HZ6 : Hid (RowD wb k6 32 zeroD none 0 none 0 none 0) := Lib.hid (by rw [← hwb]; exact (setRow_other _ _ _ _ (by omega)).trans HZ6.out)
          clear hwb
          rename World => wa
          try simp only [Act.put]
          refine wpAny_ready (rs := [5]) (by kernel_rfl) (by simp) ?_
          refine AllReady.cons rfl (fun K hK => ?_) AllReady.nil
          rw [if_pos (by rfl)]
          refine wp_store_row 32 _ _ rfl k6 _ rfl rfl 32 _ HZ6.out (by kernel_rfl) rfl (dc_one _ _ _ _ _ _ _) ?_
          refine hK _ _ ?_
          clear hK K
          change wpAny _ _ _ _ _ _ (Act.put _ none _) _
          generalize hwb : World.setRow _ _ _ = wb
          have HA6 : Hid (RowD wb k6 32 x A c B d C e) := Lib.hid (by rw [← hwb]; exact RowD.put HZ6.out x A c B d C e)
          replace hbel : Below w.heap.size w wb := by rw [← hwb]; exact belowRow hbel hge6 _
          try clear HX
          try clear hlt
          replace HA5 : Hid (RowD wb k5 32 x A c B d C e) := Lib.hid (by rw [← hwb]; exact (setRow_other _ _ _ _ (by omega)).trans HA5.out)
          clear hwb
          rename World => wa
          try simp only [Act.put]
          refine wpAny_done (by kernel_rfl) ?_ _
          go_wp2_with fail
          go_meet
          exact ⟨k5, k6, rfl, rfl, HA5.out, HA6.out, hbel, hge5, hge6, by omega⟩
        · skip
          rw [if_pos (by rfl)]
          go_simp
          refine hK _ _ ?_
          clear hK K
          try simp only [Act.put, List.setIfInBounds_toArray, List.set_cons_zero, List.set_cons_succ]
          have hgt5 := hlt
          have hge5 := Nat.le_of_lt hlt
          have hne := Nat.ne_of_lt HZ6.out.lt
          generalize hwb : World.alloc _ _ = wb
          have HZ5 : Hid (RowD wb wa.heap.size 32 zeroD none 0 none 0 none 0) := Lib.hid (by rw [← hwb]; exact Go.heap_alloc_new _ _)
          have hb : Below wa.heap.size wa wb := by rw [← hwb]; exact (Below.refl _ _).alloc (Nat.le_refl _) _
          replace HX := Lib.hid (HX.out.keep hlt hb)
          replace HZ6 := Lib.hid (HZ6.out.keep (size_lt0 HZ6.out.lt) hb)
          replace hbel := below_seq hbel hb
          replace hlt := size_lt hlt hb
          clear hb
          generalize wa.heap.size = k5 at *
          clear hwb
          rename World => wa
          try simp only [Act.put, List.setIfInBounds_toArray, List.set_cons_zero, List.set_cons_succ]
          refine wpAny_ready (rs := [1, 4]) (by kernel_rfl) (by simp) ?_
          refine AllReady.cons rfl (fun K hK => ?_) (AllReady.cons rfl (fun K hK => ?_) AllReady.nil)
          · skip
            rw [if_pos (by rfl)]
            refine wp_load_row 32 _ rfl w.heap.size rfl 32 _ (0, 0) _ HX.out Try.underlying32 rfl (by kernel_rfl) ?_
            refine hK _ _ ?_
            clear hK K
            change wpAny _ _ _ _ _ _ (Act.put _ (some 30) _) _
            try simp only [Act.put, List.setIfInBounds_toArray, List.set_cons_zero, List.set_cons_succ]
            refine wpAny_ready (rs := [4]) (by kernel_rfl) (by simp) ?_
            refine AllReady.cons rfl (fun K hK => ?_) AllReady.nil
            rw [if_pos (by rfl)]
            refine wp_store_row 32 _ _ rfl k5 _ rfl rfl 32 _ HZ5.out (by kernel_rfl) rfl (dc_one _ _ _ _ _ _ _) ?_
            refine hK _ _ ?_
            clear hK K
            change wpAny _ _ _ _ _ _ (Act.put _ none _) _
            generalize hwb : World.setRow _ _ _ = wb
            have HA5 : Hid (RowD wb k5 32 x A c B d C e) := Lib.hid (by rw [← hwb]; exact RowD.put HZ5.out x A c B d C e)
            replace hbel : Below w.heap.size w wb := by rw [← hwb]; exact belowRow hbel hge5 _
            try clear HX
            try clear hlt
            replace HZ6 : Hid (RowD wb k6 32 zeroD none 0 none 0 none 0) := Lib.hid (by rw [← hwb]; exact (setRow_other _ _ _ _ (by omega)).trans HZ6.out)
            clear hwb
            rename World => wa
            try simp only [Act.put]
            refine wpAny_ready (rs := [5]) (by kernel_rfl) (by simp) ?_
            refine AllReady.cons rfl (fun K hK => ?_) AllReady.nil
            rw [if_pos (by rfl)]
            refine wp_store_row 32 _ _ rfl k6 _ rfl rfl 32 _ HZ6.out (by kernel_rfl) rfl (dc_one _ _ _ _ _ _ _) ?_
            refine hK _ _ ?_
            clear hK K
            change wpAny _ _ _ _ _ _ (Act.put _ none _) _
            generalize hwb : World.setRow _ _ _ = wb
            have HA6 : Hid (RowD wb k6 32 x A c B d C e) := Lib.hid (by rw [← hwb]; exact RowD.put HZ6.out x A c B d C e)
            replace hbel : Below w.heap.size w wb := by rw [← hwb]; exact belowRow hbel hge6 _
            try clear HX
            try clear hlt
            replace HA5 : Hid (RowD wb k5 32 x A c B d C e) := Lib.hid (by rw [← hwb]; exact (setRow_other _ _ _ _ (by omega)).trans HA5.out)
            clear hwb
            rename World => wa
            try simp only [Act.put]
            refine wpAny_done (by kernel_rfl) ?_ _
            go_wp2_with fail
            go_meet
            exact ⟨k5, k6, rfl, rfl, HA5.out, HA6.out, hbel, hge5, hge6, by omega⟩
          · skip
            rw [if_pos (by rfl)]
            refine wp_store_row 32 _ _ rfl k5 _ rfl rfl 32 _ HZ5.out (by kernel_rfl) rfl (dc_one _ _ _ _ _ _ _) ?_
            refine hK _ _ ?_
            clear hK K
            change wpAny _ _ _ _ _ _ (Act.put _ none _) _
            generalize hwb : World.setRow _ _ _ = wb
            have HA5 : Hid (RowD wb k5 32 x A c B d C e) := Lib.hid (by rw [← hwb]; exact RowD.put HZ5.out x A c B d C e)
            replace hbel : Below w.heap.size w wb := by rw [← hwb]; exact belowRow hbel hge5 _
            replace HX := Lib.hid (show RowD wb w.heap.size 32 x A c B d C e by rw [← hwb]; exact (setRow_other _ _ _ _ (by omega)).trans HX.out)
            try clear hlt
            replace HZ6 : Hid (RowD wb k6 32 zeroD none 0 none 0 none 0) := Lib.hid (by rw [← hwb]; exact (setRow_other _ _ _ _ (by omega)).trans HZ6.out)
            clear hwb
            rename World => wa
            try simp only [Act.put]
            refine wpAny_ready (rs := [1]) (by kernel_rfl) (by simp) ?_
            refine AllReady.cons rfl (fun K hK => ?_) AllReady.nil
            rw [if_pos (by rfl)]
            refine wp_load_row 32 _ rfl w.heap.size rfl 32 _ (0, 0) _ HX.out Try.underlying32 rfl (by kernel_rfl) ?_
            refine hK _ _ ?_
            clear hK K
            change wpAny _ _ _ _ _ _ (Act.put _ (some 30) _) _
            try simp only [Act.put, List.setIfInBounds_toArray, List.set_cons_zero, List.set_cons_succ]
            refine wpAny_ready (rs := [5]) (by kernel_rfl) (by simp) ?_
            refine AllReady.cons rfl (fun K hK => ?_) AllReady.nil
            rw [if_pos (by rfl)]
            refine wp_store_row 32 _ _ rfl k6 _ rfl rfl 32 _ HZ6.out (by kernel_rfl) rfl (dc_one _ _ _ _ _ _ _) ?_
            refine hK _ _ ?_
            clear hK K
            change wpAny _ _ _ _ _ _ (Act.put _ none _) _
            generalize hwb : World.setRow _ _ _ = wb
            have HA6 : Hid (RowD wb k6 32 x A c B d C e) := Lib.hid (by rw [← hwb]; exact RowD.put HZ6.out x A c B d C e)
            replace hbel : Below w.heap.size w wb := by rw [← hwb]; exact belowRow hbel hge6 _
            try clear HX
            try clear hlt
            replace HA5 : Hid (RowD wb k5 32 x A c B d C e) := Lib.hid (by rw [← hwb]; exact (setRow_other _ _ _ _ (by omega)).trans HA5.out)
            clear hwb
            rename World => wa
            try simp only [Act.put]
            refine wpAny_done (by kernel_rfl) ?_ _
            go_wp2_with fail
            go_meet
            exact ⟨k5, k6, rfl, rfl, HA5.out, HA6.out, hbel, hge5, hge6, by omega⟩
      · skip
        rw [if_pos (by rfl)]
        refine wp_load_row 32 _ rfl w.heap.size rfl 32 _ (0, 0) _ HX.out Try.underlying32 rfl (by kernel_rfl) ?_
        refine hK _ _ ?_
        clear hK K
        change wpAny _ _ _ _ _ _ (Act.put _ (some 30) _) _
        try simp only [Act.put, List.setIfInBounds_toArray, List.set_cons_zero, List.set_cons_succ]
        refine wpAny_ready (rs := [0, 2]) (by kernel_rfl) (by simp) ?_
        refine AllReady.cons rfl (fun K hK => ?_) (AllReady.cons rfl (fun K hK => ?_) AllReady.nil)
        · skip
          rw [if_pos (by rfl)]
          refine wp_load_row 32 _ rfl w.heap.size rfl 32 _ (0, 0) _ HX.out Try.underlying32 rfl (by kernel_rfl) ?_
          refine hK _ _ ?_
          clear hK K
          change wpAny _ _ _ _ _ _ (Act.put _ (some 29) _) _
          try simp only [Act.put, List.setIfInBounds_toArray, List.set_cons_zero, List.set_cons_succ]
          refine wpAny_ready (rs := [2]) (by kernel_rfl) (by simp) ?_
          refine AllReady.cons rfl (fun K hK => ?_) AllReady.nil
          rw [if_pos (by rfl)]
          go_simp
          refine hK _ _ ?_
          clear hK K
          try simp only [Act.put, List.setIfInBounds_toArray, List.set_cons_zero, List.set_cons_succ]
          have hgt5 := hlt
          have hge5 := Nat.le_of_lt hlt
          have hne := Nat.ne_of_lt HZ6.out.lt
          generalize hwb : World.alloc _ _ = wb
          have HZ5 : Hid (RowD wb wa.heap.size 32 zeroD none 0 none 0 none 0) := Lib.hid (by rw [← hwb]; exact Go.heap_alloc_new _ _)
          have hb : Below wa.heap.size wa wb := by rw [← hwb]; exact (Below.refl _ _).alloc (Nat.le_refl _) _
          replace HX := Lib.hid (HX.out.keep hlt hb)
          replace HZ6 := Lib.hid (HZ6.out.keep (size_lt0 HZ6.out.lt) hb)
          replace hbel := below_seq hbel hb
          replace hlt := size_lt hlt hb
          clear hb
          generalize wa.heap.size = k5 at *
          clear hwb
          rename World => wa
          try simp only [Act.put, List.setIfInBounds_toArray, List.set_cons_zero, List.set_cons_succ]
          refine wpAny_ready (rs := [4]) (by kernel_rfl) (by simp) ?_
          refine AllReady.cons rfl (fun K hK => ?_) AllReady.nil
          rw [if_pos (by rfl)]
          refine wp_store_row 32 _ _ rfl k5 _ rfl rfl 32 _ HZ5.out (by kernel_rfl) rfl (dc_one _ _ _ _ _ _ _) ?_
          refine hK _ _ ?_
          clear hK K
          change wpAny _ _ _ _ _ _ (Act.put _ none _) _
          generalize hwb : World.setRow _ _ _ = wb
          have HA5 : Hid (RowD wb k5 32 x A c B d C e) := Lib.hid (by rw [← hwb]; exact RowD.put HZ5.out x A c B d C e)
          replace hbel : Below w.heap.size w wb := by rw [← hwb]; exact belowRow hbel hge5 _
          try clear HX
          try clear hlt
          replace HZ6 : Hid (RowD wb k6 32 zeroD none 0 none 0 none 0) := Lib.hid (by rw [← hwb]; exact (setRow_other _ _ _ _ (by omega)).trans HZ6.out)
          clear hwb
          rename World => wa
          try simp only [Act.put]
          refine wpAny_ready (rs := [5]) (by kernel_rfl) (by simp) ?_
          refine AllReady.cons rfl (fun K hK => ?_) AllReady.nil
          rw [if_pos (by rfl)]
          refine wp_store_row 32 _ _ rfl k6 _ rfl rfl 32 _ HZ6.out (by kernel_rfl) rfl (dc_one _ _ _ _ _ _ _) ?_
          refine hK _ _ ?_
          clear hK K
          change wpAny _ _ _ _ _ _ (Act.put _ none _) _
          generalize hwb : World.setRow _ _ _ = wb
          have HA6 : Hid (RowD wb k6 32 x A c B d C e) := Lib.hid (by rw [← hwb]; exact RowD.put HZ6.out x A c B d C e)
          replace hbel : Below w.heap.size w wb := by rw [← hwb]; exact belowRow hbel hge6 _
          try clear HX
          try clear hlt
          replace HA5 : Hid (RowD wb k5 32 x A c B d C e) := Lib.hid (by rw [← hwb]; exact (setRow_other _ _ _ _ (by omega)).trans HA5.out)
          clear hwb
          rename World => wa
          try simp only [Act.put]
          refine wpAny_done (by kernel_rfl) ?_ _
          go_wp2_with fail
          go_meet
          exact ⟨k5, k6, rfl, rfl, HA5.out, HA6.out, hbel, hge5, hge6, by omega⟩
        · skip
          rw [if_pos (by rfl)]
          go_simp
          refine hK _ _ ?_
          clear hK K
          try simp only [Act.put, List.setIfInBounds_toArray, List.set_cons_zero, List.set_cons_succ]
          have hgt5 := hlt
          have hge5 := Nat.le_of_lt hlt
          have hne := Nat.ne_of_lt HZ6.out.lt
          generalize hwb : World.alloc _ _ = wb
          have HZ5 : Hid (RowD wb wa.heap.size 32 zeroD none 0 none 0 none 0) := Lib.hid (by rw [← hwb]; exact Go.heap_alloc_new _ _)
          have hb : Below wa.heap.size wa wb := by rw [← hwb]; exact (Below.refl _ _).alloc (Nat.le_refl _) _
          replace HX := Lib.hid (HX.out.keep hlt hb)
          replace HZ6 := Lib.hid (HZ6.out.keep (size_lt0 HZ6.out.lt) hb)
          replace hbel := below_seq hbel hb
          replace hlt := size_lt hlt hb
          clear hb
          generalize wa.heap.size = k5 at *
          clear hwb
          rename World => wa
          try simp only [Act.put, List.setIfInBounds_toArray, List.set_cons_zero, List.set_cons_succ]
          refine wpAny_ready (rs := [0]) (by kernel_rfl) (by simp) ?_
          refine AllReady.cons rfl (fun K hK => ?_) AllReady.nil
          rw [if_pos (by rfl)]
          refine wp_load_row 32 _ rfl w.heap.size rfl 32 _ (0, 0) _ HX.out Try.underlying32 rfl (by kernel_rfl) ?_
          refine hK _ _ ?_
          clear hK K
          change wpAny _ _ _ _ _ _ (Act.put _ (some 29) _) _
          try simp only [Act.put, List.setIfInBounds_toArray, List.set_cons_zero, List.set_cons_succ]
          refine wpAny_ready (rs := [4]) (by kernel_rfl) (by simp) ?_
          refine AllReady.cons rfl (fun K hK => ?_) AllReady.nil
          rw [if_pos (by rfl)]
          refine wp_store_row 32 _ _ rfl k5 _ rfl rfl 32 _ HZ5.out (by kernel_rfl) rfl (dc_one _ _ _ _ _ _ _) ?_
          refine hK _ _ ?_
          clear hK K
          change wpAny _ _ _ _ _ _ (Act.put _ none _) _
          generalize hwb : World.setRow _ _ _ = wb
          have HA5 : Hid (RowD wb k5 32 x A c B d C e) := Lib.hid (by rw [← hwb]; exact RowD.put HZ5.out x A c B d C e)
          replace hbel : Below w.heap.size w wb := by rw [← hwb]; exact belowRow hbel hge5 _
          try clear HX
          try clear hlt
          replace HZ6 : Hid (RowD wb k6 32 zeroD none 0 none 0 none 0) := Lib.hid (by rw [← hwb]; exact (setRow_other _ _ _ _ (by omega)).trans HZ6.out)
          clear hwb
          rename World => wa
          try simp only [Act.put]
          refine wpAny_ready (rs := [5]) (by kernel_rfl) (by simp) ?_
          refine AllReady.cons rfl (fun K hK => ?_) AllReady.nil
          rw [if_pos (by rfl)]
          refine wp_store_row 32 _ _ rfl k6 _ rfl rfl 32 _ HZ6.out (by kernel_rfl) rfl (dc_one _ _ _ _ _ _ _) ?_
          refine hK _ _ ?_
          clear hK K
          change wpAny _ _ _ _ _ _ (Act.put _ none _) _
          generalize hwb : World.setRow _ _ _ = wb
          have HA6 : Hid (RowD wb k6 32 x A c B d C e) := Lib.hid (by rw [← hwb]; exact RowD.put HZ6.out x A c B d C e)
          replace hbel : Below w.heap.size w wb := by rw [← hwb]; exact belowRow hbel hge6 _
          try clear HX
          try clear hlt
          replace HA5 : Hid (RowD wb k5 32 x A c B d C e) := Lib.hid (by rw [← hwb]; exact (setRow_other _ _ _ _ (by omega)).trans HA5.out)
          clear hwb
          rename World => wa
          try simp only [Act.put]
          refine wpAny_done (by kernel_rfl) ?_ _
          go_wp2_with fail
          go_meet
          exact ⟨k5, k6, rfl, rfl, HA5.out, HA6.out, hbel, hge5, hge6, by omega⟩
      · skip
        rw [if_pos (by rfl)]
        go_simp
        refine hK _ _ ?_
        clear hK K
        try simp only [Act.put, List.setIfInBounds_toArray, List.set_cons_zero, List.set_cons_succ]
        have hgt5 := hlt
        have hge5 := Nat.le_of_lt hlt
        have hne := Nat.ne_of_lt HZ6.out.lt
        generalize hwb : World.alloc _ _ = wb
        have HZ5 : Hid (RowD wb wa.heap.size 32 zeroD none 0 none 0 none 0) := Lib.hid (by rw [← hwb]; exact Go.heap_alloc_new _ _)
        have hb : Below wa.heap.size wa wb := by rw [← hwb]; exact (Below.refl _ _).alloc (Nat.le_refl _) _
        replace HX := Lib.hid (HX.out.keep hlt hb)
        replace HZ6 := Lib.hid (HZ6.out.keep (size_lt0 HZ6.out.lt) hb)
        replace hbel := below_seq hbel hb
        replace hlt := size_lt hlt hb
        clear hb
        generalize wa.heap.size = k5 at *
        clear hwb
        rename World => wa
        try simp only [Act.put, List.setIfInBounds_toArray, List.set_cons_zero, List.set_cons_succ]
        refine wpAny_ready (rs := [0, 1]) (by kernel_rfl) (by simp) ?_
        refine AllReady.cons rfl (fun K hK => ?_) (AllReady.cons rfl (fun K hK => ?_) AllReady.nil)
        · skip
          rw [if_pos (by rfl)]
          refine wp_load_row 32 _ rfl w.heap.size rfl 32 _ (0, 0) _ HX.out Try.underlying32 rfl (by kernel_rfl) ?_
          refine hK _ _ ?_
          clear hK K
          change wpAny _ _ _ _ _ _ (Act.put _ (some 29) _) _
          try simp only [Act.put, List.setIfInBounds_toArray, List.set_cons_zero, List.set_cons_succ]
          refine wpAny_ready (rs := [1, 4]) (by kernel_rfl) (by simp) ?_
          refine AllReady.cons rfl (fun K hK => ?_) (AllReady.cons rfl (fun K hK => ?_) AllReady.nil)
          · skip
            rw [if_pos (by rfl)]
            refine wp_load_row 32 _ rfl w.heap.size rfl 32 _ (0, 0) _ HX.out Try.underlying32 rfl (by kernel_rfl) ?_
            refine hK _ _ ?_
            clear hK K
            change wpAny _ _ _ _ _ _ (Act.put _ (some 30) _) _
            try simp only [Act.put, List.setIfInBounds_toArray, List.set_cons_zero, List.set_cons_succ]
            refine wpAny_ready (rs := [4]) (by kernel_rfl) (by simp) ?_
            refine AllReady.cons rfl (fun K hK => ?_) AllReady.nil
            rw [if_pos (by rfl)]
            refine wp_store_row 32 _ _ rfl k5 _ rfl rfl 32 _ HZ5.out (by kernel_rfl) rfl (dc_one _ _ _ _ _ _ _) ?_
            refine hK _ _ ?_
            clear hK K
            change wpAny _ _ _ _ _ _ (Act.put _ none _) _
            generalize hwb : World.setRow _ _ _ = wb
            have HA5 : Hid (RowD wb k5 32 x A c B d C e) := Lib.hid (by rw [← hwb]; exact RowD.put HZ5.out x A c B d C e)
            replace hbel : Below w.heap.size w wb := by rw [← hwb]; exact belowRow hbel hge5 _
            try clear HX
            try clear hlt
            replace HZ6 : Hid (RowD wb k6 32 zeroD none 0 none 0 none 0) := Lib.hid (by rw [← hwb]; exact (setRow_other _ _ _ _ (by omega)).trans HZ6.out)
            clear hwb
            rename World => wa
            try simp only [Act.put]
            refine wpAny_ready (rs := [5]) (by kernel_rfl) (by simp) ?_
            refine AllReady.cons rfl (fun K hK => ?_) AllReady.nil
            rw [if_pos (by rfl)]
            refine wp_store_row 32 _ _ rfl k6 _ rfl rfl 32 _ HZ6.out (by kernel_rfl) rfl (dc_one _ _ _ _ _ _ _) ?_
            refine hK _ _ ?_
            clear hK K
            change wpAny _ _ _ _ _ _ (Act.put _ none _) _
            generalize hwb : World.setRow _ _ _ = wb
            have HA6 : Hid (RowD wb k6 32 x A c B d C e) := Lib.hid (by rw [← hwb]; exact RowD.put HZ6.out x A c B d C e)
            replace hbel : Below w.heap.size w wb := by rw [← hwb]; exact belowRow hbel hge6 _
            try clear HX
            try clear hlt
            replace HA5 : Hid (RowD wb k5 32 x A c B d C e) := Lib.hid (by rw [← hwb]; exact (setRow_other _ _ _ _ (by omega)).trans HA5.out)
            clear hwb
            rename World => wa
            try simp only [Act.put]
            refine wpAny_done (by kernel_rfl) ?_ _
            go_wp2_with fail
            go_meet
            exact ⟨k5, k6, rfl, rfl, HA5.out, HA6.out, hbel, hge5, hge6, by omega⟩
          · skip
            rw [if_pos (by rfl)]
            refine wp_store_row 32 _ _ rfl k5 _ rfl rfl 32 _ HZ5.out (by kernel_rfl) rfl (dc_one _ _ _ _ _ _ _) ?_
            refine hK _ _ ?_
            clear hK K
            change wpAny _ _ _ _ _ _ (Act.put _ none _) _
            generalize hwb : World.setRow _ _ _ = wb
            have HA5 : Hid (RowD wb k5 32 x A c B d C e) := Lib.hid (by rw [← hwb]; exact RowD.put HZ5.out x A c B d C e)
            replace hbel : Below w.heap.size w wb := by rw [← hwb]; exact belowRow hbel hge5 _
            replace HX := Lib.hid (show RowD wb w.heap.size 32 x A c B d C e by rw [← hwb]; exact (setRow_other _ _ _ _ (by omega)).trans HX.out)
            try clear hlt
            replace HZ6 : Hid (RowD wb k6 32 zeroD none 0 none 0 none 0) := Lib.hid (by rw [← hwb]; exact (setRow_other _ _ _ _ (by omega)).trans HZ6.out)
            clear hwb
            rename World => wa
            try simp only [Act.put]
            refine wpAny_ready (rs := [1]) (by kernel_rfl) (by simp) ?_
            refine AllReady.cons rfl (fun K hK => ?_) AllReady.nil
            rw [if_pos (by rfl)]
            refine wp_load_row 32 _ rfl w.heap.size rfl 32 _ (0, 0) _ HX.out Try.underlying32 rfl (by kernel_rfl) ?_
            refine hK _ _ ?_
            clear hK K
            change wpAny _ _ _ _ _ _ (Act.put _ (some 30) _) _
            try simp only [Act.put, List.setIfInBounds_toArray, List.set_cons_zero, List.set_cons_succ]
            refine wpAny_ready (rs := [5]) (by kernel_rfl) (by simp) ?_
            refine AllReady.cons rfl (fun K hK => ?_) AllReady.nil
            rw [if_pos (by rfl)]
            refine wp_store_row 32 _ _ rfl k6 _ rfl rfl 32 _ HZ6.out (by kernel_rfl) rfl (dc_one _ _ _ _ _ _ _) ?_
            refine hK _ _ ?_
            clear hK K
            change wpAny _ _ _ _ _ _ (Act.put _ none _) _
            generalize hwb : World.setRow _ _ _ = wb
            have HA6 : Hid (RowD wb k6 32 x A c B d C e) := Lib.hid (by rw [← hwb]; exact RowD.put HZ6.out x A c B d C e)
            replace hbel : Below w.heap.size w wb := by rw [← hwb]; exact belowRow hbel hge6 _
            try clear HX
            try clear hlt
            replace HA5 : Hid (RowD wb k5 32 x A c B d C e) := Lib.hid (by rw [← hwb]; exact (setRow_other _ _ _ _ (by omega)).trans HA5.out)
            clear hwb
            rename World => wa
            try simp only [Act.put]
            refine wpAny_done (by kernel_rfl) ?_ _
            go_wp2_with fail
            go_meet
            exact ⟨k5, k6, rfl, rfl, HA5.out, HA6.out, hbel, hge5, hge6, by omega⟩
        · skip
          rw [if_pos (by rfl)]
          refine wp_load_row 32 _ rfl w.heap.size rfl 32 _ (0, 0) _ HX.out Try.underlying32 rfl (by kernel_rfl) ?_
          refine hK _ _ ?_
          clear hK K
          change wpAny _ _ _ _ _ _ (Act.put _ (some 30) _) _
          try simp only [Act.put, List.setIfInBounds_toArray, List.set_cons_zero, List.set_cons_succ]
          refine wpAny_ready (rs := [0]) (by kernel_rfl) (by simp) ?_
          refine AllReady.cons rfl (fun K hK => ?_) AllReady.nil
          rw [if_pos (by rfl)]
          refine wp_load_row 32 _ rfl w.heap.size rfl 32 _ (0, 0) _ HX.out Try.underlying32 rfl (by kernel_rfl) ?_
          refine hK _ _ ?_
          clear hK K
          change wpAny _ _ _ _ _ _ (Act.put _ (some 29) _) _
          try simp only [Act.put, List.setIfInBounds_toArray, List.set_cons_zero, List.set_cons_succ]
          refine wpAny_ready (rs := [4]) (by kernel_rfl) (by simp) ?_
          refine AllReady.cons rfl (fun K hK => ?_) AllReady.nil
          rw [if_pos (by rfl)]
          refine wp_store_row 32 _ _ rfl k5 _ rfl rfl 32 _ HZ5.out (by kernel_rfl) rfl (dc_one _ _ _ _ _ _ _) ?_
          refine hK _ _ ?_
          clear hK K
          change wpAny _ _ _ _ _ _ (Act.put _ none _) _
          generalize hwb : World.setRow _ _ _ = wb
          have HA5 : Hid (RowD wb k5 32 x A c B d C e) := Lib.hid (by rw [← hwb]; exact RowD.put HZ5.out x A c B d C e)
          replace hbel : Below w.heap.size w wb := by rw [← hwb]; exact belowRow hbel hge5 _
          try clear HX
          try clear hlt
          replace HZ6 : Hid (RowD wb k6 32 zeroD none 0 none 0 none 0) := Lib.hid (by rw [← hwb]; exact (setRow_other _ _ _ _ (by omega)).trans HZ6.out)
          clear hwb
          rename World => wa
          try simp only [Act.put]
          refine wpAny_ready (rs := [5]) (by kernel_rfl) (by simp) ?_
          refine AllReady.cons rfl (fun K hK => ?_) AllReady.nil
          rw [if_pos (by rfl)]
          refine wp_store_row 32 _ _ rfl k6 _ rfl rfl 32 _ HZ6.out (by kernel_rfl) rfl (dc_one _ _ _ _ _ _ _) ?_
          refine hK _ _ ?_
          clear hK K
          change wpAny _ _ _ _ _ _ (Act.put _ none _) _
          generalize hwb : World.setRow _ _ _ = wb
          have HA6 : Hid (RowD wb k6 32 x A c B d C e) := Lib.hid (by rw [← hwb]; exact RowD.put HZ6.out x A c B d C e)
          replace hbel : Below w.heap.size w wb := by rw [← hwb]; exact belowRow hbel hge6 _
          try clear HX
          try clear hlt
          replace HA5 : Hid (RowD wb k5 32 x A c B d C e) := Lib.hid (by rw [← hwb]; exact (setRow_other _ _ _ _ (by omega)).trans HA5.out)
          clear hwb
          rename World => wa
          try simp only [Act.put]
          refine wpAny_done (by kernel_rfl) ?_ _
          go_wp2_with fail
          go_meet
          exact ⟨k5, k6, rfl, rfl, HA5.out, HA6.out, hbel, hge5, hge6, by omega⟩
  case rest =>
    clear HX hbel hlt w1
    obtain ⟨k5, k6, rfl, rfl, h5, h6, hbel, hge5, hge6, hne⟩ := hcut
    have HI : Hid (SI w wc k5 k6 x A c B d C e A c B d C e) := Lib.hid ⟨h5, h6, HM.out.safe hbel (fun g hg => hg.elim (fun e => e ▸ hge5) (fun e => e ▸ hge6)), HM.out.safe hbel (fun g hg => hg.elim (fun e => e ▸ hge5) (fun e => e ▸ hge6)), HS.out.1, HS.out.2, hbel⟩
    clear h5 h6 hbel HM HS
    go_wp2_with fail
    go_loopw [7] (fun u wr => ∃ (j : Nat) (y : Dv) (A : Option Addr) (c : Nat) (B : Option Addr) (d : Nat) (C : Option Addr) (e : Nat) (A2 : Option Addr) (c2 : Nat) (B2 : Option Addr) (d2 : Nat) (C2 : Option Addr) (e2 : Nat), u = .int .i64 (j : Int) ∧ j ≤ ws.length ∧ Hid (SI w wr k5 k6 y A c B d C e A2 c2 B2 d2 C2 e2)) (fun u _ => ws.length - (intOf u).toNat)
    case atStart => exact ⟨0, x, A, c, B, d, C, e, A, c, B, d, C, e, rfl, Nat.zero_le _, HI⟩
    case round =>
      clear HI
      obtain ⟨j, y, A, c, B, d, C, e, A2, c2, B2, d2, C2, e2, rfl, hj, HQ⟩ := hrel
      by_cases hjl : j < ws.length
      rotate_left
      · go_wp2_with fail
        refine (awake_t wr).mono ?_
        rintro r w2 ⟨rfl, hb⟩
        go_wp2_with fail
        go_ret
        exact ⟨rfl, below_seq HQ.out.bel hb⟩
      obtain ⟨ad, a, rfl, ha, hca⟩ := (HW.out.keep HQ.out.bel).at_ hjl
      clear ha
      have HP := Lib.hid (p_lt HQ.out.ra.lt HQ.out.rb.lt)
      by_cases ha1 : a = -1
      · subst ha1
        go_upto_region 8 with fail
        clear hca
        go_wp2_with (refine wpList_load_row rfl 32 _ rfl k5 rfl 32 _ (0, 0) _ HQ.out.ra Try.underlying32 rfl (by kernel_rfl) ?_)
        refine (Reset_q y A B C c d e wr HQ.out.sa.rd).mono ?_
        rintro r w2 ⟨⟨A3, c3, B3, d3, C3, e3, rfl, hd⟩, hb⟩
        have SA := Lib.hid (safe_of HQ.out.sa (Same3.rsX y) hb HP.out hd)
        have RB := Lib.hid (HQ.out.rb.keep (HQ.out.rb.lt) hb)
        have SB := Lib.hid (HQ.out.sb.keep hb)
        have hbx := hb
        clear hb hd
        go_upto_region 9 with fail
        generalize hwb : World.alloc _ _ = wb
        have hb : Below w2.heap.size w2 wb := by rw [← hwb]; exact (Below.refl _ _).alloc (Nat.le_refl _) _
        have RA : Hid (RowD wb w2.heap.size 32 (rsX y) A3 c3 B3 d3 C3 e3) := Lib.hid (by rw [← hwb]; exact Go.heap_alloc_new _ _)
        replace SA := Lib.hid (SA.out.keep hb)
        replace RB := Lib.hid (RB.out.keep RB.out.lt hb)
        replace SB := Lib.hid (SB.out.keep hb)
        replace hbx := below_seq hbx hb
        clear hb hwb
        generalize w2.heap.size = k8 at *
        go_wp2_with (refine wpList_load_row rfl 32 _ rfl k6 rfl 32 _ (0, 0) _ RB.out Try.underlying32 rfl (by kernel_rfl) ?_)
        refine (Reset_s y A2 B2 C2 c2 d2 e2 wb SB.out.rd).mono ?_
        rintro r w3 ⟨rfl, hb⟩
        replace RA := Lib.hid (RA.out.keep RA.out.lt hb)
        replace SA := Lib.hid (SA.out.keep hb)
        replace SB := Lib.hid ((SB.out.keep hb).same (Same3.rsX y))
        replace hbx := below_seq hbx hb
        have hbx65 := hbx.size
        clear hb RB
        go_upto_region 10 with fail
        generalize hwb : World.alloc _ _ = wd
        have hb : Below w3.heap.size w3 wd := by rw [← hwb]; exact (Below.refl _ _).alloc (Nat.le_refl _) _
        have RB : Hid (RowD wd w3.heap.size 32 (rsX y) A2 c2 B2 d2 C2 e2) := Lib.hid (by rw [← hwb]; exact Go.heap_alloc_new _ _)
        replace RA := Lib.hid (RA.out.keep RA.out.lt hb)
        replace SA := Lib.hid (SA.out.keep hb)
        replace SB := Lib.hid (SB.out.keep hb)
        replace hbx := below_seq hbx hb
        clear hb hwb
        have hk65 : w3.heap.size ≠ k5 := by have h1 := hbx65; have h2 := HQ.out.ra.lt; omega
        generalize w3.heap.size = k10 at *
        go_wp2_with (first | (refine wpList_load_row rfl 32 _ rfl k8 rfl 32 _ (0, 0) _ RA.out Try.underlying32 rfl (by kernel_rfl) ?_) | (refine wpList_load_row rfl 32 _ rfl k10 rfl 32 _ (0, 0) _ RB.out Try.underlying32 rfl (by kernel_rfl) ?_))
        refine (dev_yes (rsX y) A3 B3 C3 A2 B2 C2 c3 d3 e3 c2 d2 e2 wd SA.out.rd SB.out.rd).mono ?_
        rintro r w4 ⟨rfl, hb⟩
        replace RA := Lib.hid (RA.out.keep RA.out.lt hb)
        replace RB := Lib.hid (RB.out.keep RB.out.lt hb)
        replace SA := Lib.hid (SA.out.keep hb)
        replace SB := Lib.hid (SB.out.keep hb)
        replace hbx := below_seq hbx hb
        clear hb
        have q1 : (rsE y != rsE y) = false := by simp
        go_upto_region 12 with fail
        refine wp_region_any (by kernel_rfl) ?_
        change wpAny _ _ _ _ _ _ _ (World.drew _)
        generalize hwa : World.drew _ = wa
        have hb : Below w4.heap.size w4 wa := by rw [← hwa]; exact (Below.refl _ _).drew
        replace RA := Lib.hid (RA.out.keep RA.out.lt hb)
        replace RB := Lib.hid (RB.out.keep RB.out.lt hb)
        replace SA := Lib.hid (SA.out.keep hb)
        replace SB := Lib.hid (SB.out.keep hb)
        replace hbx := below_seq hbx hb
        have hra := (HQ.out.ra.keep HQ.out.ra.lt hbx)
        have hrb := (HQ.out.rb.keep HQ.out.rb.lt hbx)
        have hbl := below_seq HQ.out.bel hbx
        have HG := Lib.hid (And.intro hra (And.intro hrb hbl))
        clear hra hrb hbl hwa hb
        refine wpAny_ready (rs := [0, 1]) (by kernel_rfl) (by simp) ?_
        refine AllReady.cons rfl (fun K hK => ?_) (AllReady.cons rfl (fun K hK => ?_) AllReady.nil)
        · skip
          rw [if_pos (by rfl)]
          refine wp_load_row 32 _ rfl k8 rfl 32 _ (0, 0) _ RA.out Try.underlying32 rfl (by kernel_rfl) ?_
          refine hK _ _ ?_
          clear hK K
          change wpAny _ _ _ _ _ _ (Act.put _ (some 61) _) _
          try simp only [Act.put, List.setIfInBounds_toArray, List.set_cons_zero, List.set_cons_succ]
          refine wpAny_ready (rs := [1, 2]) (by kernel_rfl) (by simp) ?_
          refine AllReady.cons rfl (fun K hK => ?_) (AllReady.cons rfl (fun K hK => ?_) AllReady.nil)
          · skip
            rw [if_pos (by rfl)]
            refine wp_load_row 32 _ rfl k10 rfl 32 _ (0, 0) _ RB.out Try.underlying32 rfl (by kernel_rfl) ?_
            refine hK _ _ ?_
            clear hK K
            change wpAny _ _ _ _ _ _ (Act.put _ (some 62) _) _
            try simp only [Act.put, List.setIfInBounds_toArray, List.set_cons_zero, List.set_cons_succ]
            refine wpAny_ready (rs := [2]) (by kernel_rfl) (by simp) ?_
            refine AllReady.cons rfl (fun K hK => ?_) AllReady.nil
            rw [if_pos (by rfl)]
            refine wp_store_row 32 _ _ rfl k5 _ rfl rfl 32 _ HG.out.1 (by kernel_rfl) rfl (dc_one _ _ _ _ _ _ _) ?_
            refine hK _ _ ?_
            clear hK K
            change wpAny _ _ _ _ _ _ (Act.put _ none _) _
            generalize hwb : World.setRow _ _ _ = wb
            have HNA : Hid (RowD wb k5 32 (rsX y) A3 c3 B3 d3 C3 e3) := Lib.hid (by rw [← hwb]; exact RowD.put HG.out.1 (rsX y) A3 c3 B3 d3 C3 e3)
            have HOB := Lib.hid (show RowD wb k6 32 y A2 c2 B2 d2 C2 e2 by rw [← hwb]; exact (setRow_other _ _ _ _ (Ne.symm hne)).trans HG.out.2.1)
            have HBL := Lib.hid (show Below w.heap.size w wb by rw [← hwb]; exact belowRow HG.out.2.2 hge5 _)
            have HSA := Lib.hid (show RdS wb (fun g => g = k5 ∨ g = k6) A3 B3 C3 (rsX y) by rw [← hwb]; exact SA.out.row (.inl rfl) _)
            have HSB := Lib.hid (show RdS wb (fun g => g = k5 ∨ g = k6) A2 B2 C2 (rsX y) by rw [← hwb]; exact SB.out.row (.inl rfl) _)
            
            clear hwb
            try simp only [Act.put]
            refine wpAny_ready (rs := [3]) (by kernel_rfl) (by simp) ?_
            refine AllReady.cons rfl (fun K hK => ?_) AllReady.nil
            rw [if_pos (by rfl)]
            refine wp_store_row 32 _ _ rfl k6 _ rfl rfl 32 _ HOB.out (by kernel_rfl) rfl (dc_one _ _ _ _ _ _ _) ?_
            refine hK _ _ ?_
            clear hK K
            change wpAny _ _ _ _ _ _ (Act.put _ none _) _
            generalize hwc : World.setRow _ _ _ = wz
            have HNB : Hid (RowD wz k6 32 (rsX y) A2 c2 B2 d2 C2 e2) := Lib.hid (by rw [← hwc]; exact RowD.put HOB.out (rsX y) A2 c2 B2 d2 C2 e2)
            have HNA2 := Lib.hid (show RowD wz k5 32 (rsX y) A3 c3 B3 d3 C3 e3 by rw [← hwc]; exact (setRow_other _ _ _ _ hne).trans HNA.out)
            have HBL2 := Lib.hid (show Below w.heap.size w wz by rw [← hwc]; exact belowRow HBL.out hge6 _)
            have HSA2 := Lib.hid (show RdS wz (fun g => g = k5 ∨ g = k6) A3 B3 C3 (rsX y) by rw [← hwc]; exact HSA.out.row (.inr rfl) _)
            have HSB2 := Lib.hid (show RdS wz (fun g => g = k5 ∨ g = k6) A2 B2 C2 (rsX y) by rw [← hwc]; exact HSB.out.row (.inr rfl) _)
            clear hwc
            try simp only [Act.put]
            refine wpAny_done (by kernel_rfl) ?_ _
            go_wp2_with fail
            go_roundw
            case rel =>
              exact ⟨j + 1, rsX y, A3, c3, B3, d3, C3, e3, A2, c2, B2, d2, C2, e2, by go_num, by omega, Lib.hid ⟨HNA2.out, HNB.out, HSA2.out, HSB2.out, (by rw [rsX_seed]; exact HQ.out.s0), (by rw [rsX_seed]; exact HQ.out.s1), HBL2.out⟩⟩
            case measure => first | (simp [intOf]; done) | (simp [intOf]; omega)
          · skip
            rw [if_pos (by rfl)]
            refine wp_store_row 32 _ _ rfl k5 _ rfl rfl 32 _ HG.out.1 (by kernel_rfl) rfl (dc_one _ _ _ _ _ _ _) ?_
            refine hK _ _ ?_
            clear hK K
            change wpAny _ _ _ _ _ _ (Act.put _ none _) _
            generalize hwb : World.setRow _ _ _ = wb
            have HNA : Hid (RowD wb k5 32 (rsX y) A3 c3 B3 d3 C3 e3) := Lib.hid (by rw [← hwb]; exact RowD.put HG.out.1 (rsX y) A3 c3 B3 d3 C3 e3)
            have HOB := Lib.hid (show RowD wb k6 32 y A2 c2 B2 d2 C2 e2 by rw [← hwb]; exact (setRow_other _ _ _ _ (Ne.symm hne)).trans HG.out.2.1)
            have HBL := Lib.hid (show Below w.heap.size w wb by rw [← hwb]; exact belowRow HG.out.2.2 hge5 _)
            have HSA := Lib.hid (show RdS wb (fun g => g = k5 ∨ g = k6) A3 B3 C3 (rsX y) by rw [← hwb]; exact SA.out.row (.inl rfl) _)
            have HSB := Lib.hid (show RdS wb (fun g => g = k5 ∨ g = k6) A2 B2 C2 (rsX y) by rw [← hwb]; exact SB.out.row (.inl rfl) _)
            replace RB := Lib.hid (show RowD wb k10 32 (rsX y) A2 c2 B2 d2 C2 e2 by rw [← hwb]; exact (setRow_other _ _ _ _ hk65).trans RB.out)
            clear hwb
            try simp only [Act.put]
            refine wpAny_ready (rs := [1]) (by kernel_rfl) (by simp) ?_
            refine AllReady.cons rfl (fun K hK => ?_) AllReady.nil
            rw [if_pos (by rfl)]
            refine wp_load_row 32 _ rfl k10 rfl 32 _ (0, 0) _ RB.out Try.underlying32 rfl (by kernel_rfl) ?_
            refine hK _ _ ?_
            clear hK K
            change wpAny _ _ _ _ _ _ (Act.put _ (some 62) _) _
            try simp only [Act.put, List.setIfInBounds_toArray, List.set_cons_zero, List.set_cons_succ]
            refine wpAny_ready (rs := [3]) (by kernel_rfl) (by simp) ?_
            refine AllReady.cons rfl (fun K hK => ?_) AllReady.nil
            rw [if_pos (by rfl)]
            refine wp_store_row 32 _ _ rfl k6 _ rfl rfl 32 _ HOB.out (by kernel_rfl) rfl (dc_one _ _ _ _ _ _ _) ?_
            refine hK _ _ ?_
            clear hK K
            change wpAny _ _ _ _ _ _ (Act.put _ none _) _
            generalize hwc : World.setRow _ _ _ = wz
            have HNB : Hid (RowD wz k6 32 (rsX y) A2 c2 B2 d2 C2 e2) := Lib.hid (by rw [← hwc]; exact RowD.put HOB.out (rsX y) A2 c2 B2 d2 C2 e2)
            have HNA2 := Lib.hid (show RowD wz k5 32 (rsX y) A3 c3 B3 d3 C3 e3 by rw [← hwc]; exact (setRow_other _ _ _ _ hne).trans HNA.out)
            have HBL2 := Lib.hid (show Below w.heap.size w wz by rw [← hwc]; exact belowRow HBL.out hge6 _)
            have HSA2 := Lib.hid (show RdS wz (fun g => g = k5 ∨ g = k6) A3 B3 C3 (rsX y) by rw [← hwc]; exact HSA.out.row (.inr rfl) _)
            have HSB2 := Lib.hid (show RdS wz (fun g => g = k5 ∨ g = k6) A2 B2 C2 (rsX y) by rw [← hwc]; exact HSB.out.row (.inr rfl) _)
            clear hwc
            try simp only [Act.put]
            refine wpAny_done (by kernel_rfl) ?_ _
            go_wp2_with fail
            go_roundw
            case rel =>
              exact ⟨j + 1, rsX y, A3, c3, B3, d3, C3, e3, A2, c2, B2, d2, C2, e2, by go_num, by omega, Lib.hid ⟨HNA2.out, HNB.out, HSA2.out, HSB2.out, (by rw [rsX_seed]; exact HQ.out.s0), (by rw [rsX_seed]; exact HQ.out.s1), HBL2.out⟩⟩
            case measure => first | (simp [intOf]; done) | (simp [intOf]; omega)
        · skip
          rw [if_pos (by rfl)]
          refine wp_load_row 32 _ rfl k10 rfl 32 _ (0, 0) _ RB.out Try.underlying32 rfl (by kernel_rfl) ?_
          refine hK _ _ ?_
          clear hK K
          change wpAny _ _ _ _ _ _ (Act.put _ (some 62) _) _
          try simp only [Act.put, List.setIfInBounds_toArray, List.set_cons_zero, List.set_cons_succ]
          refine wpAny_ready (rs := [0]) (by kernel_rfl) (by simp) ?_
          refine AllReady.cons rfl (fun K hK => ?_) AllReady.nil
          rw [if_pos (by rfl)]
          refine wp_load_row 32 _ rfl k8 rfl 32 _ (0, 0) _ RA.out Try.underlying32 rfl (by kernel_rfl) ?_
          refine hK _ _ ?_
          clear hK K
          change wpAny _ _ _ _ _ _ (Act.put _ (some 61) _) _
          try simp only [Act.put, List.setIfInBounds_toArray, List.set_cons_zero, List.set_cons_succ]
          refine wpAny_ready (rs := [2]) (by kernel_rfl) (by simp) ?_
          refine AllReady.cons rfl (fun K hK => ?_) AllReady.nil
          rw [if_pos (by rfl)]
          refine wp_store_row 32 _ _ rfl k5 _ rfl rfl 32 _ HG.out.1 (by kernel_rfl) rfl (dc_one _ _ _ _ _ _ _) ?_
          refine hK _ _ ?_
          clear hK K
          change wpAny _ _ _ _ _ _ (Act.put _ none _) _
          generalize hwb : World.setRow _ _ _ = wb
          have HNA : Hid (RowD wb k5 32 (rsX y) A3 c3 B3 d3 C3 e3) := Lib.hid (by rw [← hwb]; exact RowD.put HG.out.1 (rsX y) A3 c3 B3 d3 C3 e3)
          have HOB := Lib.hid (show RowD wb k6 32 y A2 c2 B2 d2 C2 e2 by rw [← hwb]; exact (setRow_other _ _ _ _ (Ne.symm hne)).trans HG.out.2.1)
          have HBL := Lib.hid (show Below w.heap.size w wb by rw [← hwb]; exact belowRow HG.out.2.2 hge5 _)
          have HSA := Lib.hid (show RdS wb (fun g => g = k5 ∨ g = k6) A3 B3 C3 (rsX y) by rw [← hwb]; exact SA.out.row (.inl rfl) _)
          have HSB := Lib.hid (show RdS wb (fun g => g = k5 ∨ g = k6) A2 B2 C2 (rsX y) by rw [← hwb]; exact SB.out.row (.inl rfl) _)
          
          clear hwb
          try simp only [Act.put]
          refine wpAny_ready (rs := [3]) (by kernel_rfl) (by simp) ?_
          refine AllReady.cons rfl (fun K hK => ?_) AllReady.nil
          rw [if_pos (by rfl)]
          refine wp_store_row 32 _ _ rfl k6 _ rfl rfl 32 _ HOB.out (by kernel_rfl) rfl (dc_one _ _ _ _ _ _ _) ?_
          refine hK _ _ ?_
          clear hK K
          change wpAny _ _ _ _ _ _ (Act.put _ none _) _
          generalize hwc : World.setRow _ _ _ = wz
          have HNB : Hid (RowD wz k6 32 (rsX y) A2 c2 B2 d2 C2 e2) := Lib.hid (by rw [← hwc]; exact RowD.put HOB.out (rsX y) A2 c2 B2 d2 C2 e2)
          have HNA2 := Lib.hid (show RowD wz k5 32 (rsX y) A3 c3 B3 d3 C3 e3 by rw [← hwc]; exact (setRow_other _ _ _ _ hne).trans HNA.out)
          have HBL2 := Lib.hid (show Below w.heap.size w wz by rw [← hwc]; exact belowRow HBL.out hge6 _)
          have HSA2 := Lib.hid (show RdS wz (fun g => g = k5 ∨ g = k6) A3 B3 C3 (rsX y) by rw [← hwc]; exact HSA.out.row (.inr rfl) _)
          have HSB2 := Lib.hid (show RdS wz (fun g => g = k5 ∨ g = k6) A2 B2 C2 (rsX y) by rw [← hwc]; exact HSB.out.row (.inr rfl) _)
          clear hwc
          try simp only [Act.put]
          refine wpAny_done (by kernel_rfl) ?_ _
          go_wp2_with fail
          go_roundw
          case rel =>
            exact ⟨j + 1, rsX y, A3, c3, B3, d3, C3, e3, A2, c2, B2, d2, C2, e2, by go_num, by omega, Lib.hid ⟨HNA2.out, HNB.out, HSA2.out, HSB2.out, (by rw [rsX_seed]; exact HQ.out.s0), (by rw [rsX_seed]; exact HQ.out.s1), HBL2.out⟩⟩
          case measure => first | (simp [intOf]; done) | (simp [intOf]; omega)
      have hq0 : (a == -1) = false := by simpa using ha1
      have HSd := Lib.hid (And.intro HQ.out.s0 HQ.out.s1)
      have hca0 := Lib.hid hca
      have RA0 := Lib.hid HQ.out.ra
      have SA0 := Lib.hid HQ.out.sa
      have HPS := HP
      go_upto_region 13 with fail
      clear hca
      go_cut [12, 13, 14] (fun p u t wx => R13 wr (fun g => g = k5 ∨ g = k6) (spX y a) (.int .i64 (spO y a)) (.int .i64 (spE y a)) p u t wx)
      case first =>
          refine wp_region_any (by kernel_rfl) ?_
          change wpAny _ _ _ _ _ _ _ (World.drew _)
          generalize hwa : World.drew _ = wa
          have hbx : Below wr.heap.size wr wa := by rw [← hwa]; exact (Below.refl _ _).drew
          have RX := Lib.hid (RA0.out.keep RA0.out.lt hbx)
          have hca := keep_cell hbx hca0.out
          clear hwa
          refine take1 (i := 1) (d := some 65) (v := ?_) rfl rfl (by kernel_rfl) (by kernel_rfl) (by kernel_rfl) (fun _ _ _ h => h) (Or.inl ⟨by rfl, ?_⟩) ?_
          rotate_left
          · intro w; first | (go_simp; done) | (go_simp; with_reducible rfl)
          simp only [Act.put, List.setIfInBounds_toArray, List.set_cons_zero, List.set_cons_succ]
          refine take1 (i := 2) (d := some 66) (v := ?_) rfl rfl (by kernel_rfl) (by kernel_rfl) (by kernel_rfl) (fun _ _ _ h => h) (Or.inl ⟨by rfl, ?_⟩) ?_
          rotate_left
          · intro w; first | (go_simp; done) | (go_simp; with_reducible rfl)
          simp only [Act.put, List.setIfInBounds_toArray, List.set_cons_zero, List.set_cons_succ]
          refine take1 (i := 3) (d := some 67) (v := ?_) rfl rfl (by kernel_rfl) (by kernel_rfl) (by kernel_rfl) (fun _ _ _ h => h) (Or.inl ⟨by rfl, ?_⟩) ?_
          rotate_left
          · intro w; first | (go_simp; done) | (go_simp; with_reducible rfl)
          simp only [Act.put, List.setIfInBounds_toArray, List.set_cons_zero, List.set_cons_succ]
          refine wpAny_ready (rs := [0, 4, 10]) (by kernel_rfl) (by simp) ?_
          refine AllReady.cons rfl (fun K hK => ?_) (AllReady.cons rfl (fun K hK => ?_) (AllReady.cons rfl (fun K hK => ?_) AllReady.nil))
          · skip
            rw [if_pos (by rfl)]
            refine wp_load_row 32 _ rfl k5 rfl 32 _ (0, 0) _ RX.out Try.underlying32 rfl (by kernel_rfl) ?_
            refine hK _ _ ?_
            clear hK K
            change wpAny _ _ _ _ _ _ (Act.put _ (some 64) _) _
            try simp only [Act.put, List.setIfInBounds_toArray, List.set_cons_zero, List.set_cons_succ]
            refine wpAny_ready (rs := [4, 10]) (by kernel_rfl) (by simp) ?_
            refine AllReady.cons rfl (fun K hK => ?_) (AllReady.cons rfl (fun K hK => ?_) AllReady.nil)
            · skip
              try go_simp
              refine hK _ _ ?_
              clear hK K
              try simp only [Act.put, List.setIfInBounds_toArray, List.set_cons_zero, List.set_cons_succ]
              refine wpAny_ready (rs := [5, 10]) (by kernel_rfl) (by simp) ?_
              refine AllReady.cons rfl (fun K hK => ?_) (AllReady.cons rfl (fun K hK => ?_) AllReady.nil)
              · skip
                rw [if_pos (by rfl)]
                try go_simp
                refine (Step_q y a A B C c d e wa ((SA0.out.keep hbx).rd) HSd.out.1 HSd.out.2).mono ?_
                rintro r w4 ⟨⟨A3, c3, B3, d3, C3, e3, rfl, hd⟩, hb⟩
                refine hK _ _ ?_
                clear hK K
                have SN := Lib.hid (safe_of (SA0.out.keep hbx) (Same3.spX y a) hb (fun g hg => Nat.lt_of_lt_of_le (HPS.out g hg) hbx.size) hd)
                replace RX := Lib.hid (RX.out.keep RX.out.lt hb)
                replace hca := keep_cell hb hca
                replace hbx := below_seq hbx hb
                clear hb hd
                rename World => wa
                try simp only [Act.put, List.setIfInBounds_toArray, List.set_cons_zero, List.set_cons_succ]
                refine take1 (i := 6) (d := some 63) (v := ?_) rfl rfl (by kernel_rfl) (by kernel_rfl) (by kernel_rfl) (fun _ _ _ h => h) (Or.inl ⟨by rfl, ?_⟩) ?_
                rotate_left
                · intro w; first | (go_simp; done) | (go_simp; with_reducible rfl)
                simp only [Act.put, List.setIfInBounds_toArray, List.set_cons_zero, List.set_cons_succ]
                refine take1 (i := 7) (d := some 70) (v := ?_) rfl rfl (by kernel_rfl) (by kernel_rfl) (by kernel_rfl) (fun _ _ _ h => h) (Or.inl ⟨by rfl, ?_⟩) ?_
                rotate_left
                · intro w; first | (go_simp; done) | (go_simp; with_reducible rfl)
                simp only [Act.put, List.setIfInBounds_toArray, List.set_cons_zero, List.set_cons_succ]
                refine take1 (i := 8) (d := some 71) (v := ?_) rfl rfl (by kernel_rfl) (by kernel_rfl) (by kernel_rfl) (fun _ _ _ h => h) (Or.inl ⟨by rfl, ?_⟩) ?_
                rotate_left
                · intro w; first | (go_simp; done) | (go_simp; with_reducible rfl)
                simp only [Act.put, List.setIfInBounds_toArray, List.set_cons_zero, List.set_cons_succ]
                refine take1 (i := 9) (d := some 72) (v := ?_) rfl rfl (by kernel_rfl) (by kernel_rfl) (by kernel_rfl) (fun _ _ _ h => h) (Or.inl ⟨by rfl, ?_⟩) ?_
                rotate_left
                · intro w; first | (go_simp; done) | (go_simp; with_reducible rfl)
                simp only [Act.put, List.setIfInBounds_toArray, List.set_cons_zero, List.set_cons_succ]
                refine wpAny_ready (rs := [10]) (by kernel_rfl) (by simp) ?_
                refine AllReady.cons rfl (fun K hK => ?_) AllReady.nil
                rw [if_pos (by rfl)]
                go_simp
                refine hK _ _ ?_
                clear hK K
                try simp only [Act.put, List.setIfInBounds_toArray, List.set_cons_zero, List.set_cons_succ]
                have hge := hbx.size
                generalize hwb : World.alloc _ _ = wb
                replace SN := Lib.hid (show RdS wb (fun g => (fun g => g = k5 ∨ g = k6) g ∨ g = wa.heap.size) A3 B3 C3 (spX y a) by rw [← hwb]; exact SN.out.fresh _)
                have HZ : Hid (RowD wb wa.heap.size 32 zeroD none 0 none 0 none 0) := Lib.hid (by rw [← hwb]; exact Go.heap_alloc_new _ _)
                have hb : Below wa.heap.size wa wb := by rw [← hwb]; exact (Below.refl _ _).alloc (Nat.le_refl _) _
                replace RX := Lib.hid (RX.out.keep RX.out.lt hb)
                replace hca := keep_cell hb hca
                replace hbx := below_seq hbx hb
                clear hb
                generalize wa.heap.size = kn at *
                clear hwb
                rename World => wa
                try simp only [Act.put, List.setIfInBounds_toArray, List.set_cons_zero, List.set_cons_succ]
                refine wpAny_ready (rs := [11]) (by kernel_rfl) (by simp) ?_
                refine AllReady.cons rfl (fun K hK => ?_) AllReady.nil
                rw [if_pos (by rfl)]
                refine wp_store_row 32 _ _ rfl kn _ rfl rfl 32 _ HZ.out (by kernel_rfl) rfl (dc_one (spX y a) _ _ _ _ _ _) ?_
                refine hK _ _ ?_
                clear hK K
                change wpAny _ _ _ _ _ _ (Act.put _ none _) _
                generalize hwb : World.setRow _ _ _ = wb
                have HN : Hid (RowD wb kn 32 (spX y a) A3 c3 B3 d3 C3 e3) := Lib.hid (by rw [← hwb]; exact RowD.put HZ.out (spX y a) A3 c3 B3 d3 C3 e3)
                have HSN := Lib.hid (show RdS wb (fun g => g = k5 ∨ g = k6) A3 B3 C3 (spX y a) by rw [← hwb]; exact ((SN.out).row (.inr rfl) _).weak (fun g hg => .inl hg))
                have HBN := Lib.hid (show Below wr.heap.size wr wb by rw [← hwb]; exact belowRow hbx hge _)
                clear hwb
                try simp only [Act.put]
                refine take1 (i := 12) (d := some 13) (v := ?_) rfl rfl (by kernel_rfl) (by kernel_rfl) (by kernel_rfl) (fun _ _ _ h => h) (Or.inl ⟨by rfl, ?_⟩) ?_
                rotate_left
                · intro w; first | (go_simp; done) | (go_simp; with_reducible rfl)
                simp only [Act.put, List.setIfInBounds_toArray, List.set_cons_zero, List.set_cons_succ]
                refine take1 (i := 13) (d := some 14) (v := ?_) rfl rfl (by kernel_rfl) (by kernel_rfl) (by kernel_rfl) (fun _ _ _ h => h) (Or.inl ⟨by rfl, ?_⟩) ?_
                rotate_left
                · intro w; first | (go_simp; done) | (go_simp; with_reducible rfl)
                simp only [Act.put, List.setIfInBounds_toArray, List.set_cons_zero, List.set_cons_succ]
                refine wpAny_done (by kernel_rfl) ?_ _
                go_wp2_with fail
                go_meet
                exact ⟨kn, A3, c3, B3, d3, C3, e3, rfl, rfl, rfl, HN.out, HSN.out, HBN.out, hge⟩
              · skip
                rw [if_pos (by rfl)]
                go_simp
                refine hK _ _ ?_
                clear hK K
                try simp only [Act.put, List.setIfInBounds_toArray, List.set_cons_zero, List.set_cons_succ]
                have hge := hbx.size
                generalize hwb : World.alloc _ _ = wb
                have HZ : Hid (RowD wb wa.heap.size 32 zeroD none 0 none 0 none 0) := Lib.hid (by rw [← hwb]; exact Go.heap_alloc_new _ _)
                have hb : Below wa.heap.size wa wb := by rw [← hwb]; exact (Below.refl _ _).alloc (Nat.le_refl _) _
                replace RX := Lib.hid (RX.out.keep RX.out.lt hb)
                replace hca := keep_cell hb hca
                replace hbx := below_seq hbx hb
                clear hb
                generalize wa.heap.size = kn at *
                clear hwb
                rename World => wa
                try simp only [Act.put, List.setIfInBounds_toArray, List.set_cons_zero, List.set_cons_succ]
                refine wpAny_ready (rs := [5]) (by kernel_rfl) (by simp) ?_
                refine AllReady.cons rfl (fun K hK => ?_) AllReady.nil
                rw [if_pos (by rfl)]
                try go_simp
                refine (Step_q y a A B C c d e wa ((SA0.out.keep hbx).rd) HSd.out.1 HSd.out.2).mono ?_
                rintro r w4 ⟨⟨A3, c3, B3, d3, C3, e3, rfl, hd⟩, hb⟩
                refine hK _ _ ?_
                clear hK K
                have SN := Lib.hid (safe13 SA0.out (Same3.spX y a) hbx hb HPS.out hge HZ.out.lt hd)
                replace RX := Lib.hid (RX.out.keep RX.out.lt hb)
                replace hca := keep_cell hb hca
                replace HZ := Lib.hid (HZ.out.keep HZ.out.lt hb)
                replace hbx := below_seq hbx hb
                clear hb hd
                rename World => wa
                try simp only [Act.put, List.setIfInBounds_toArray, List.set_cons_zero, List.set_cons_succ]
                refine take1 (i := 6) (d := some 63) (v := ?_) rfl rfl (by kernel_rfl) (by kernel_rfl) (by kernel_rfl) (fun _ _ _ h => h) (Or.inl ⟨by rfl, ?_⟩) ?_
                rotate_left
                · intro w; first | (go_simp; done) | (go_simp; with_reducible rfl)
                simp only [Act.put, List.setIfInBounds_toArray, List.set_cons_zero, List.set_cons_succ]
                refine take1 (i := 7) (d := some 70) (v := ?_) rfl rfl (by kernel_rfl) (by kernel_rfl) (by kernel_rfl) (fun _ _ _ h => h) (Or.inl ⟨by rfl, ?_⟩) ?_
                rotate_left
                · intro w; first | (go_simp; done) | (go_simp; with_reducible rfl)
                simp only [Act.put, List.setIfInBounds_toArray, List.set_cons_zero, List.set_cons_succ]
                refine take1 (i := 8) (d := some 71) (v := ?_) rfl rfl (by kernel_rfl) (by kernel_rfl) (by kernel_rfl) (fun _ _ _ h => h) (Or.inl ⟨by rfl, ?_⟩) ?_
                rotate_left
                · intro w; first | (go_simp; done) | (go_simp; with_reducible rfl)
                simp only [Act.put, List.setIfInBounds_toArray, List.set_cons_zero, List.set_cons_succ]
                refine take1 (i := 9) (d := some 72) (v := ?_) rfl rfl (by kernel_rfl) (by kernel_rfl) (by kernel_rfl) (fun _ _ _ h => h) (Or.inl ⟨by rfl, ?_⟩) ?_
                rotate_left
                · intro w; first | (go_simp; done) | (go_simp; with_reducible rfl)
                simp only [Act.put, List.setIfInBounds_toArray, List.set_cons_zero, List.set_cons_succ]
                refine wpAny_ready (rs := [11]) (by kernel_rfl) (by simp) ?_
                refine AllReady.cons rfl (fun K hK => ?_) AllReady.nil
                rw [if_pos (by rfl)]
                refine wp_store_row 32 _ _ rfl kn _ rfl rfl 32 _ HZ.out (by kernel_rfl) rfl (dc_one (spX y a) _ _ _ _ _ _) ?_
                refine hK _ _ ?_
                clear hK K
                change wpAny _ _ _ _ _ _ (Act.put _ none _) _
                generalize hwb : World.setRow _ _ _ = wb
                have HN : Hid (RowD wb kn 32 (spX y a) A3 c3 B3 d3 C3 e3) := Lib.hid (by rw [← hwb]; exact RowD.put HZ.out (spX y a) A3 c3 B3 d3 C3 e3)
                have HSN := Lib.hid (show RdS wb (fun g => g = k5 ∨ g = k6) A3 B3 C3 (spX y a) by rw [← hwb]; exact ((SN.out).row (.inr rfl) _).weak (fun g hg => .inl hg))
                have HBN := Lib.hid (show Below wr.heap.size wr wb by rw [← hwb]; exact belowRow hbx hge _)
                clear hwb
                try simp only [Act.put]
                refine take1 (i := 12) (d := some 13) (v := ?_) rfl rfl (by kernel_rfl) (by kernel_rfl) (by kernel_rfl) (fun _ _ _ h => h) (Or.inl ⟨by rfl, ?_⟩) ?_
                rotate_left
                · intro w; first | (go_simp; done) | (go_simp; with_reducible rfl)
                simp only [Act.put, List.setIfInBounds_toArray, List.set_cons_zero, List.set_cons_succ]
                refine take1 (i := 13) (d := some 14) (v := ?_) rfl rfl (by kernel_rfl) (by kernel_rfl) (by kernel_rfl) (fun _ _ _ h => h) (Or.inl ⟨by rfl, ?_⟩) ?_
                rotate_left
                · intro w; first | (go_simp; done) | (go_simp; with_reducible rfl)
                simp only [Act.put, List.setIfInBounds_toArray, List.set_cons_zero, List.set_cons_succ]
                refine wpAny_done (by kernel_rfl) ?_ _
                go_wp2_with fail
                go_meet
                exact ⟨kn, A3, c3, B3, d3, C3, e3, rfl, rfl, rfl, HN.out, HSN.out, HBN.out, hge⟩
            · skip
              rw [if_pos (by rfl)]
              go_simp
              refine hK _ _ ?_
              clear hK K
              try simp only [Act.put, List.setIfInBounds_toArray, List.set_cons_zero, List.set_cons_succ]
              have hge := hbx.size
              generalize hwb : World.alloc _ _ = wb
              have HZ : Hid (RowD wb wa.heap.size 32 zeroD none 0 none 0 none 0) := Lib.hid (by rw [← hwb]; exact Go.heap_alloc_new _ _)
              have hb : Below wa.heap.size wa wb := by rw [← hwb]; exact (Below.refl _ _).alloc (Nat.le_refl _) _
              replace RX := Lib.hid (RX.out.keep RX.out.lt hb)
              replace hca := keep_cell hb hca
              replace hbx := below_seq hbx hb
              clear hb
              generalize wa.heap.size = kn at *
              clear hwb
              rename World => wa
              try simp only [Act.put, List.setIfInBounds_toArray, List.set_cons_zero, List.set_cons_succ]
              refine wpAny_ready (rs := [4]) (by kernel_rfl) (by simp) ?_
              refine AllReady.cons rfl (fun K hK => ?_) AllReady.nil
              try go_simp
              refine hK _ _ ?_
              clear hK K
              try simp only [Act.put, List.setIfInBounds_toArray, List.set_cons_zero, List.set_cons_succ]
              refine wpAny_ready (rs := [5]) (by kernel_rfl) (by simp) ?_
              refine AllReady.cons rfl (fun K hK => ?_) AllReady.nil
              rw [if_pos (by rfl)]
              try go_simp
              refine (Step_q y a A B C c d e wa ((SA0.out.keep hbx).rd) HSd.out.1 HSd.out.2).mono ?_
              rintro r w4 ⟨⟨A3, c3, B3, d3, C3, e3, rfl, hd⟩, hb⟩
              refine hK _ _ ?_
              clear hK K
              have SN := Lib.hid (safe13 SA0.out (Same3.spX y a) hbx hb HPS.out hge HZ.out.lt hd)
              replace RX := Lib.hid (RX.out.keep RX.out.lt hb)
              replace hca := keep_cell hb hca
              replace HZ := Lib.hid (HZ.out.keep HZ.out.lt hb)
              replace hbx := below_seq hbx hb
              clear hb hd
              rename World => wa
              try simp only [Act.put, List.setIfInBounds_toArray, List.set_cons_zero, List.set_cons_succ]
              refine take1 (i := 6) (d := some 63) (v := ?_) rfl rfl (by kernel_rfl) (by kernel_rfl) (by kernel_rfl) (fun _ _ _ h => h) (Or.inl ⟨by rfl, ?_⟩) ?_
              rotate_left
              · intro w; first | (go_simp; done) | (go_simp; with_reducible rfl)
              simp only [Act.put, List.setIfInBounds_toArray, List.set_cons_zero, List.set_cons_succ]
              refine take1 (i := 7) (d := some 70) (v := ?_) rfl rfl (by kernel_rfl) (by kernel_rfl) (by kernel_rfl) (fun _ _ _ h => h) (Or.inl ⟨by rfl, ?_⟩) ?_
              rotate_left
              · intro w; first | (go_simp; done) | (go_simp; with_reducible rfl)
              simp only [Act.put, List.setIfInBounds_toArray, List.set_cons_zero, List.set_cons_succ]
              refine take1 (i := 8) (d := some 71) (v := ?_) rfl rfl (by kernel_rfl) (by kernel_rfl) (by kernel_rfl) (fun _ _ _ h => h) (Or.inl ⟨by rfl, ?_⟩) ?_
              rotate_left
              · intro w; first | (go_simp; done) | (go_simp; with_reducible rfl)
              simp only [Act.put, List.setIfInBounds_toArray, List.set_cons_zero, List.set_cons_succ]
              refine take1 (i := 9) (d := some 72) (v := ?_) rfl rfl (by kernel_rfl) (by kernel_rfl) (by kernel_rfl) (fun _ _ _ h => h) (Or.inl ⟨by rfl, ?_⟩) ?_
              rotate_left
              · intro w; first | (go_simp; done) | (go_simp; with_reducible rfl)
              simp only [Act.put, List.setIfInBounds_toArray, List.set_cons_zero, List.set_cons_succ]
              refine wpAny_ready (rs := [11]) (by kernel_rfl) (by simp) ?_
              refine AllReady.cons rfl (fun K hK => ?_) AllReady.nil
              rw [if_pos (by rfl)]
              refine wp_store_row 32 _ _ rfl kn _ rfl rfl 32 _ HZ.out (by kernel_rfl) rfl (dc_one (spX y a) _ _ _ _ _ _) ?_
              refine hK _ _ ?_
              clear hK K
              change wpAny _ _ _ _ _ _ (Act.put _ none _) _
              generalize hwb : World.setRow _ _ _ = wb
              have HN : Hid (RowD wb kn 32 (spX y a) A3 c3 B3 d3 C3 e3) := Lib.hid (by rw [← hwb]; exact RowD.put HZ.out (spX y a) A3 c3 B3 d3 C3 e3)
              have HSN := Lib.hid (show RdS wb (fun g => g = k5 ∨ g = k6) A3 B3 C3 (spX y a) by rw [← hwb]; exact ((SN.out).row (.inr rfl) _).weak (fun g hg => .inl hg))
              have HBN := Lib.hid (show Below wr.heap.size wr wb by rw [← hwb]; exact belowRow hbx hge _)
              clear hwb
              try simp only [Act.put]
              refine take1 (i := 12) (d := some 13) (v := ?_) rfl rfl (by kernel_rfl) (by kernel_rfl) (by kernel_rfl) (fun _ _ _ h => h) (Or.inl ⟨by rfl, ?_⟩) ?_
              rotate_left
              · intro w; first | (go_simp; done) | (go_simp; with_reducible rfl)
              simp only [Act.put, List.setIfInBounds_toArray, List.set_cons_zero, List.set_cons_succ]
              refine take1 (i := 13) (d := some 14) (v := ?_) rfl rfl (by kernel_rfl) (by kernel_rfl) (by kernel_rfl) (fun _ _ _ h => h) (Or.inl ⟨by rfl, ?_⟩) ?_
              rotate_left
              · intro w; first | (go_simp; done) | (go_simp; with_reducible rfl)
              simp only [Act.put, List.setIfInBounds_toArray, List.set_cons_zero, List.set_cons_succ]
              refine wpAny_done (by kernel_rfl) ?_ _
              go_wp2_with fail
              go_meet
              exact ⟨kn, A3, c3, B3, d3, C3, e3, rfl, rfl, rfl, HN.out, HSN.out, HBN.out, hge⟩
          · skip
            try go_simp
            refine hK _ _ ?_
            clear hK K
            try simp only [Act.put, List.setIfInBounds_toArray, List.set_cons_zero, List.set_cons_succ]
            refine wpAny_ready (rs := [0, 10]) (by kernel_rfl) (by simp) ?_
            refine AllReady.cons rfl (fun K hK => ?_) (AllReady.cons rfl (fun K hK => ?_) AllReady.nil)
            · skip
              rw [if_pos (by rfl)]
              refine wp_load_row 32 _ rfl k5 rfl 32 _ (0, 0) _ RX.out Try.underlying32 rfl (by kernel_rfl) ?_
              refine hK _ _ ?_
              clear hK K
              change wpAny _ _ _ _ _ _ (Act.put _ (some 64) _) _
              try simp only [Act.put, List.setIfInBounds_toArray, List.set_cons_zero, List.set_cons_succ]
              refine wpAny_ready (rs := [5, 10]) (by kernel_rfl) (by simp) ?_
              refine AllReady.cons rfl (fun K hK => ?_) (AllReady.cons rfl (fun K hK => ?_) AllReady.nil)
              · skip
                rw [if_pos (by rfl)]
                try go_simp
                refine (Step_q y a A B C c d e wa ((SA0.out.keep hbx).rd) HSd.out.1 HSd.out.2).mono ?_
                rintro r w4 ⟨⟨A3, c3, B3, d3, C3, e3, rfl, hd⟩, hb⟩
                refine hK _ _ ?_
                clear hK K
                have SN := Lib.hid (safe_of (SA0.out.keep hbx) (Same3.spX y a) hb (fun g hg => Nat.lt_of_lt_of_le (HPS.out g hg) hbx.size) hd)
                replace RX := Lib.hid (RX.out.keep RX.out.lt hb)
                replace hca := keep_cell hb hca
                replace hbx := below_seq hbx hb
                clear hb hd
                rename World => wa
                try simp only [Act.put, List.setIfInBounds_toArray, List.set_cons_zero, List.set_cons_succ]
                refine take1 (i := 6) (d := some 63) (v := ?_) rfl rfl (by kernel_rfl) (by kernel_rfl) (by kernel_rfl) (fun _ _ _ h => h) (Or.inl ⟨by rfl, ?_⟩) ?_
                rotate_left
                · intro w; first | (go_simp; done) | (go_simp; with_reducible rfl)
                simp only [Act.put, List.setIfInBounds_toArray, List.set_cons_zero, List.set_cons_succ]
                refine take1 (i := 7) (d := some 70) (v := ?_) rfl rfl (by kernel_rfl) (by kernel_rfl) (by kernel_rfl) (fun _ _ _ h => h) (Or.inl ⟨by rfl, ?_⟩) ?_
                rotate_left
                · intro w; first | (go_simp; done) | (go_simp; with_reducible rfl)
                simp only [Act.put, List.setIfInBounds_toArray, List.set_cons_zero, List.set_cons_succ]
                refine take1 (i := 8) (d := some 71) (v := ?_) rfl rfl (by kernel_rfl) (by kernel_rfl) (by kernel_rfl) (fun _ _ _ h => h) (Or.inl ⟨by rfl, ?_⟩) ?_
                rotate_left
                · intro w; first | (go_simp; done) | (go_simp; with_reducible rfl)
                simp only [Act.put, List.setIfInBounds_toArray, List.set_cons_zero, List.set_cons_succ]
                refine take1 (i := 9) (d := some 72) (v := ?_) rfl rfl (by kernel_rfl) (by kernel_rfl) (by kernel_rfl) (fun _ _ _ h => h) (Or.inl ⟨by rfl, ?_⟩) ?_
                rotate_left
                · intro w; first | (go_simp; done) | (go_simp; with_reducible rfl)
                simp only [Act.put, List.setIfInBounds_toArray, List.set_cons_zero, List.set_cons_succ]
                refine wpAny_ready (rs := [10]) (by kernel_rfl) (by simp) ?_
                refine AllReady.cons rfl (fun K hK => ?_) AllReady.nil
                rw [if_pos (by rfl)]
                go_simp
                refine hK _ _ ?_
                clear hK K
                try simp only [Act.put, List.setIfInBounds_toArray, List.set_cons_zero, List.set_cons_succ]
                have hge := hbx.size
                generalize hwb : World.alloc _ _ = wb
                replace SN := Lib.hid (show RdS wb (fun g => (fun g => g = k5 ∨ g = k6) g ∨ g = wa.heap.size) A3 B3 C3 (spX y a) by rw [← hwb]; exact SN.out.fresh _)
                have HZ : Hid (RowD wb wa.heap.size 32 zeroD none 0 none 0 none 0) := Lib.hid (by rw [← hwb]; exact Go.heap_alloc_new _ _)
                have hb : Below wa.heap.size wa wb := by rw [← hwb]; exact (Below.refl _ _).alloc (Nat.le_refl _) _
                replace RX := Lib.hid (RX.out.keep RX.out.lt hb)
                replace hca := keep_cell hb hca
                replace hbx := below_seq hbx hb
                clear hb
                generalize wa.heap.size = kn at *
                clear hwb
                rename World => wa
                try simp only [Act.put, List.setIfInBounds_toArray, List.set_cons_zero, List.set_cons_succ]
                refine wpAny_ready (rs := [11]) (by kernel_rfl) (by simp) ?_
                refine AllReady.cons rfl (fun K hK => ?_) AllReady.nil
                rw [if_pos (by rfl)]
                refine wp_store_row 32 _ _ rfl kn _ rfl rfl 32 _ HZ.out (by kernel_rfl) rfl (dc_one (spX y a) _ _ _ _ _ _) ?_
                refine hK _ _ ?_
                clear hK K
                change wpAny _ _ _ _ _ _ (Act.put _ none _) _
                generalize hwb : World.setRow _ _ _ = wb
                have HN : Hid (RowD wb kn 32 (spX y a) A3 c3 B3 d3 C3 e3) := Lib.hid (by rw [← hwb]; exact RowD.put HZ.out (spX y a) A3 c3 B3 d3 C3 e3)
                have HSN := Lib.hid (show RdS wb (fun g => g = k5 ∨ g = k6) A3 B3 C3 (spX y a) by rw [← hwb]; exact ((SN.out).row (.inr rfl) _).weak (fun g hg => .inl hg))
                have HBN := Lib.hid (show Below wr.heap.size wr wb by rw [← hwb]; exact belowRow hbx hge _)
                clear hwb
                try simp only [Act.put]
                refine take1 (i := 12) (d := some 13) (v := ?_) rfl rfl (by kernel_rfl) (by kernel_rfl) (by kernel_rfl) (fun _ _ _ h => h) (Or.inl ⟨by rfl, ?_⟩) ?_
                rotate_left
                · intro w; first | (go_simp; done) | (go_simp; with_reducible rfl)
                simp only [Act.put, List.setIfInBounds_toArray, List.set_cons_zero, List.set_cons_succ]
                refine take1 (i := 13) (d := some 14) (v := ?_) rfl rfl (by kernel_rfl) (by kernel_rfl) (by kernel_rfl) (fun _ _ _ h => h) (Or.inl ⟨by rfl, ?_⟩) ?_
                rotate_left
                · intro w; first | (go_simp; done) | (go_simp; with_reducible rfl)
                simp only [Act.put, List.setIfInBounds_toArray, List.set_cons_zero, List.set_cons_succ]
                refine wpAny_done (by kernel_rfl) ?_ _
                go_wp2_with fail
                go_meet
                exact ⟨kn, A3, c3, B3, d3, C3, e3, rfl, rfl, rfl, HN.out, HSN.out, HBN.out, hge⟩
              · skip
                rw [if_pos (by rfl)]
                go_simp
                refine hK _ _ ?_
                clear hK K
                try simp only [Act.put, List.setIfInBounds_toArray, List.set_cons_zero, List.set_cons_succ]
                have hge := hbx.size
                generalize hwb : World.alloc _ _ = wb
                have HZ : Hid (RowD wb wa.heap.size 32 zeroD none 0 none 0 none 0) := Lib.hid (by rw [← hwb]; exact Go.heap_alloc_new _ _)
                have hb : Below wa.heap.size wa wb := by rw [← hwb]; exact (Below.refl _ _).alloc (Nat.le_refl _) _
                replace RX := Lib.hid (RX.out.keep RX.out.lt hb)
                replace hca := keep_cell hb hca
                replace hbx := below_seq hbx hb
                clear hb
                generalize wa.heap.size = kn at *
                clear hwb
                rename World => wa
                try simp only [Act.put, List.setIfInBounds_toArray, List.set_cons_zero, List.set_cons_succ]
                refine wpAny_ready (rs := [5]) (by kernel_rfl) (by simp) ?_
                refine AllReady.cons rfl (fun K hK => ?_) AllReady.nil
                rw [if_pos (by rfl)]
                try go_simp
                refine (Step_q y a A B C c d e wa ((SA0.out.keep hbx).rd) HSd.out.1 HSd.out.2).mono ?_
                rintro r w4 ⟨⟨A3, c3, B3, d3, C3, e3, rfl, hd⟩, hb⟩
                refine hK _ _ ?_
                clear hK K
                have SN := Lib.hid (safe13 SA0.out (Same3.spX y a) hbx hb HPS.out hge HZ.out.lt hd)
                replace RX := Lib.hid (RX.out.keep RX.out.lt hb)
                replace hca := keep_cell hb hca
                replace HZ := Lib.hid (HZ.out.keep HZ.out.lt hb)
                replace hbx := below_seq hbx hb
                clear hb hd
                rename World => wa
                try simp only [Act.put, List.setIfInBounds_toArray, List.set_cons_zero, List.set_cons_succ]
                refine take1 (i := 6) (d := some 63) (v := ?_) rfl rfl (by kernel_rfl) (by kernel_rfl) (by kernel_rfl) (fun _ _ _ h => h) (Or.inl ⟨by rfl, ?_⟩) ?_
                rotate_left
                · intro w; first | (go_simp; done) | (go_simp; with_reducible rfl)
                simp only [Act.put, List.setIfInBounds_toArray, List.set_cons_zero, List.set_cons_succ]
                refine take1 (i := 7) (d := some 70) (v := ?_) rfl rfl (by kernel_rfl) (by kernel_rfl) (by kernel_rfl) (fun _ _ _ h => h) (Or.inl ⟨by rfl, ?_⟩) ?_
                rotate_left
                · intro w; first | (go_simp; done) | (go_simp; with_reducible rfl)
                simp only [Act.put, List.setIfInBounds_toArray, List.set_cons_zero, List.set_cons_succ]
                refine take1 (i := 8) (d := some 71) (v := ?_) rfl rfl (by kernel_rfl) (by kernel_rfl) (by kernel_rfl) (fun _ _ _ h => h) (Or.inl ⟨by rfl, ?_⟩) ?_
                rotate_left
                · intro w; first | (go_simp; done) | (go_simp; with_reducible rfl)
                simp only [Act.put, List.setIfInBounds_toArray, List.set_cons_zero, List.set_cons_succ]
                refine take1 (i := 9) (d := some 72) (v := ?_) rfl rfl (by kernel_rfl) (by kernel_rfl) (by kernel_rfl) (fun _ _ _ h => h) (Or.inl ⟨by rfl, ?_⟩) ?_
                rotate_left
                · intro w; first | (go_simp; done) | (go_simp; with_reducible rfl)
                simp only [Act.put, List.setIfInBounds_toArray, List.set_cons_zero, List.set_cons_succ]
                refine wpAny_ready (rs := [11]) (by kernel_rfl) (by simp) ?_
                refine AllReady.cons rfl (fun K hK => ?_) AllReady.nil
                rw [if_pos (by rfl)]
                refine wp_store_row 32 _ _ rfl kn _ rfl rfl 32 _ HZ.out (by kernel_rfl) rfl (dc_one (spX y a) _ _ _ _ _ _) ?_
                refine hK _ _ ?_
                clear hK K
                change wpAny _ _ _ _ _ _ (Act.put _ none _) _
                generalize hwb : World.setRow _ _ _ = wb
                have HN : Hid (RowD wb kn 32 (spX y a) A3 c3 B3 d3 C3 e3) := Lib.hid (by rw [← hwb]; exact RowD.put HZ.out (spX y a) A3 c3 B3 d3 C3 e3)
                have HSN := Lib.hid (show RdS wb (fun g => g = k5 ∨ g = k6) A3 B3 C3 (spX y a) by rw [← hwb]; exact ((SN.out).row (.inr rfl) _).weak (fun g hg => .inl hg))
                have HBN := Lib.hid (show Below wr.heap.size wr wb by rw [← hwb]; exact belowRow hbx hge _)
                clear hwb
                try simp only [Act.put]
                refine take1 (i := 12) (d := some 13) (v := ?_) rfl rfl (by kernel_rfl) (by kernel_rfl) (by kernel_rfl) (fun _ _ _ h => h) (Or.inl ⟨by rfl, ?_⟩) ?_
                rotate_left
                · intro w; first | (go_simp; done) | (go_simp; with_reducible rfl)
                simp only [Act.put, List.setIfInBounds_toArray, List.set_cons_zero, List.set_cons_succ]
                refine take1 (i := 13) (d := some 14) (v := ?_) rfl rfl (by kernel_rfl) (by kernel_rfl) (by kernel_rfl) (fun _ _ _ h => h) (Or.inl ⟨by rfl, ?_⟩) ?_
                rotate_left
                · intro w; first | (go_simp; done) | (go_simp; with_reducible rfl)
                simp only [Act.put, List.setIfInBounds_toArray, List.set_cons_zero, List.set_cons_succ]
                refine wpAny_done (by kernel_rfl) ?_ _
                go_wp2_with fail
                go_meet
                exact ⟨kn, A3, c3, B3, d3, C3, e3, rfl, rfl, rfl, HN.out, HSN.out, HBN.out, hge⟩
            · skip
              rw [if_pos (by rfl)]
              go_simp
              refine hK _ _ ?_
              clear hK K
              try simp only [Act.put, List.setIfInBounds_toArray, List.set_cons_zero, List.set_cons_succ]
              have hge := hbx.size
              generalize hwb : World.alloc _ _ = wb
              have HZ : Hid (RowD wb wa.heap.size 32 zeroD none 0 none 0 none 0) := Lib.hid (by rw [← hwb]; exact Go.heap_alloc_new _ _)
              have hb : Below wa.heap.size wa wb := by rw [← hwb]; exact (Below.refl _ _).alloc (Nat.le_refl _) _
              replace RX := Lib.hid (RX.out.keep RX.out.lt hb)
              replace hca := keep_cell hb hca
              replace hbx := below_seq hbx hb
              clear hb
              generalize wa.heap.size = kn at *
              clear hwb
              rename World => wa
              try simp only [Act.put, List.setIfInBounds_toArray, List.set_cons_zero, List.set_cons_succ]
              refine wpAny_ready (rs := [0]) (by kernel_rfl) (by simp) ?_
              refine AllReady.cons rfl (fun K hK => ?_) AllReady.nil
              rw [if_pos (by rfl)]
              refine wp_load_row 32 _ rfl k5 rfl 32 _ (0, 0) _ RX.out Try.underlying32 rfl (by kernel_rfl) ?_
              refine hK _ _ ?_
              clear hK K
              change wpAny _ _ _ _ _ _ (Act.put _ (some 64) _) _
              try simp only [Act.put, List.setIfInBounds_toArray, List.set_cons_zero, List.set_cons_succ]
              refine wpAny_ready (rs := [5]) (by kernel_rfl) (by simp) ?_
              refine AllReady.cons rfl (fun K hK => ?_) AllReady.nil
              rw [if_pos (by rfl)]
              try go_simp
              refine (Step_q y a A B C c d e wa ((SA0.out.keep hbx).rd) HSd.out.1 HSd.out.2).mono ?_
              rintro r w4 ⟨⟨A3, c3, B3, d3, C3, e3, rfl, hd⟩, hb⟩
              refine hK _ _ ?_
              clear hK K
              have SN := Lib.hid (safe13 SA0.out (Same3.spX y a) hbx hb HPS.out hge HZ.out.lt hd)
              replace RX := Lib.hid (RX.out.keep RX.out.lt hb)
              replace hca := keep_cell hb hca
              replace HZ := Lib.hid (HZ.out.keep HZ.out.lt hb)
              replace hbx := below_seq hbx hb
              clear hb hd
              rename World => wa
              try simp only [Act.put, List.setIfInBounds_toArray, List.set_cons_zero, List.set_cons_succ]
              refine take1 (i := 6) (d := some 63) (v := ?_) rfl rfl (by kernel_rfl) (by kernel_rfl) (by kernel_rfl) (fun _ _ _ h => h) (Or.inl ⟨by rfl, ?_⟩) ?_
              rotate_left
              · intro w; first | (go_simp; done) | (go_simp; with_reducible rfl)
              simp only [Act.put, List.setIfInBounds_toArray, List.set_cons_zero, List.set_cons_succ]
              refine take1 (i := 7) (d := some 70) (v := ?_) rfl rfl (by kernel_rfl) (by kernel_rfl) (by kernel_rfl) (fun _ _ _ h => h) (Or.inl ⟨by rfl, ?_⟩) ?_
              rotate_left
              · intro w; first | (go_simp; done) | (go_simp; with_reducible rfl)
              simp only [Act.put, List.setIfInBounds_toArray, List.set_cons_zero, List.set_cons_succ]
              refine take1 (i := 8) (d := some 71) (v := ?_) rfl rfl (by kernel_rfl) (by kernel_rfl) (by kernel_rfl) (fun _ _ _ h => h) (Or.inl ⟨by rfl, ?_⟩) ?_
              rotate_left
              · intro w; first | (go_simp; done) | (go_simp; with_reducible rfl)
              simp only [Act.put, List.setIfInBounds_toArray, List.set_cons_zero, List.set_cons_succ]
              refine take1 (i := 9) (d := some 72) (v := ?_) rfl rfl (by kernel_rfl) (by kernel_rfl) (by kernel_rfl) (fun _ _ _ h => h) (Or.inl ⟨by rfl, ?_⟩) ?_
              rotate_left
              · intro w; first | (go_simp; done) | (go_simp; with_reducible rfl)
              simp only [Act.put, List.setIfInBounds_toArray, List.set_cons_zero, List.set_cons_succ]
              refine wpAny_ready (rs := [11]) (by kernel_rfl) (by simp) ?_
              refine AllReady.cons rfl (fun K hK => ?_) AllReady.nil
              rw [if_pos (by rfl)]
              refine wp_store_row 32 _ _ rfl kn _ rfl rfl 32 _ HZ.out (by kernel_rfl) rfl (dc_one (spX y a) _ _ _ _ _ _) ?_
              refine hK _ _ ?_
              clear hK K
              change wpAny _ _ _ _ _ _ (Act.put _ none _) _
              generalize hwb : World.setRow _ _ _ = wb
              have HN : Hid (RowD wb kn 32 (spX y a) A3 c3 B3 d3 C3 e3) := Lib.hid (by rw [← hwb]; exact RowD.put HZ.out (spX y a) A3 c3 B3 d3 C3 e3)
              have HSN := Lib.hid (show RdS wb (fun g => g = k5 ∨ g = k6) A3 B3 C3 (spX y a) by rw [← hwb]; exact ((SN.out).row (.inr rfl) _).weak (fun g hg => .inl hg))
              have HBN := Lib.hid (show Below wr.heap.size wr wb by rw [← hwb]; exact belowRow hbx hge _)
              clear hwb
              try simp only [Act.put]
              refine take1 (i := 12) (d := some 13) (v := ?_) rfl rfl (by kernel_rfl) (by kernel_rfl) (by kernel_rfl) (fun _ _ _ h => h) (Or.inl ⟨by rfl, ?_⟩) ?_
              rotate_left
              · intro w; first | (go_simp; done) | (go_simp; with_reducible rfl)
              simp only [Act.put, List.setIfInBounds_toArray, List.set_cons_zero, List.set_cons_succ]
              refine take1 (i := 13) (d := some 14) (v := ?_) rfl rfl (by kernel_rfl) (by kernel_rfl) (by kernel_rfl) (fun _ _ _ h => h) (Or.inl ⟨by rfl, ?_⟩) ?_
              rotate_left
              · intro w; first | (go_simp; done) | (go_simp; with_reducible rfl)
              simp only [Act.put, List.setIfInBounds_toArray, List.set_cons_zero, List.set_cons_succ]
              refine wpAny_done (by kernel_rfl) ?_ _
              go_wp2_with fail
              go_meet
              exact ⟨kn, A3, c3, B3, d3, C3, e3, rfl, rfl, rfl, HN.out, HSN.out, HBN.out, hge⟩
          · skip
            rw [if_pos (by rfl)]
            go_simp
            refine hK _ _ ?_
            clear hK K
            try simp only [Act.put, List.setIfInBounds_toArray, List.set_cons_zero, List.set_cons_succ]
            have hge := hbx.size
            generalize hwb : World.alloc _ _ = wb
            have HZ : Hid (RowD wb wa.heap.size 32 zeroD none 0 none 0 none 0) := Lib.hid (by rw [← hwb]; exact Go.heap_alloc_new _ _)
            have hb : Below wa.heap.size wa wb := by rw [← hwb]; exact (Below.refl _ _).alloc (Nat.le_refl _) _
            replace RX := Lib.hid (RX.out.keep RX.out.lt hb)
            replace hca := keep_cell hb hca
            replace hbx := below_seq hbx hb
            clear hb
            generalize wa.heap.size = kn at *
            clear hwb
            rename World => wa
            try simp only [Act.put, List.setIfInBounds_toArray, List.set_cons_zero, List.set_cons_succ]
            refine wpAny_ready (rs := [0, 4]) (by kernel_rfl) (by simp) ?_
            refine AllReady.cons rfl (fun K hK => ?_) (AllReady.cons rfl (fun K hK => ?_) AllReady.nil)
            · skip
              rw [if_pos (by rfl)]
              refine wp_load_row 32 _ rfl k5 rfl 32 _ (0, 0) _ RX.out Try.underlying32 rfl (by kernel_rfl) ?_
              refine hK _ _ ?_
              clear hK K
              change wpAny _ _ _ _ _ _ (Act.put _ (some 64) _) _
              try simp only [Act.put, List.setIfInBounds_toArray, List.set_cons_zero, List.set_cons_succ]
              refine wpAny_ready (rs := [4]) (by kernel_rfl) (by simp) ?_
              refine AllReady.cons rfl (fun K hK => ?_) AllReady.nil
              try go_simp
              refine hK _ _ ?_
              clear hK K
              try simp only [Act.put, List.setIfInBounds_toArray, List.set_cons_zero, List.set_cons_succ]
              refine wpAny_ready (rs := [5]) (by kernel_rfl) (by simp) ?_
              refine AllReady.cons rfl (fun K hK => ?_) AllReady.nil
              rw [if_pos (by rfl)]
              try go_simp
              refine (Step_q y a A B C c d e wa ((SA0.out.keep hbx).rd) HSd.out.1 HSd.out.2).mono ?_
              rintro r w4 ⟨⟨A3, c3, B3, d3, C3, e3, rfl, hd⟩, hb⟩
              refine hK _ _ ?_
              clear hK K
              have SN := Lib.hid (safe13 SA0.out (Same3.spX y a) hbx hb HPS.out hge HZ.out.lt hd)
              replace RX := Lib.hid (RX.out.keep RX.out.lt hb)
              replace hca := keep_cell hb hca
              replace HZ := Lib.hid (HZ.out.keep HZ.out.lt hb)
              replace hbx := below_seq hbx hb
              clear hb hd
              rename World => wa
              try simp only [Act.put, List.setIfInBounds_toArray, List.set_cons_zero, List.set_cons_succ]
              refine take1 (i := 6) (d := some 63) (v := ?_) rfl rfl (by kernel_rfl) (by kernel_rfl) (by kernel_rfl) (fun _ _ _ h => h) (Or.inl ⟨by rfl, ?_⟩) ?_
              rotate_left
              · intro w; first | (go_simp; done) | (go_simp; with_reducible rfl)
              simp only [Act.put, List.setIfInBounds_toArray, List.set_cons_zero, List.set_cons_succ]
              refine take1 (i := 7) (d := some 70) (v := ?_) rfl rfl (by kernel_rfl) (by kernel_rfl) (by kernel_rfl) (fun _ _ _ h => h) (Or.inl ⟨by rfl, ?_⟩) ?_
              rotate_left
              · intro w; first | (go_simp; done) | (go_simp; with_reducible rfl)
              simp only [Act.put, List.setIfInBounds_toArray, List.set_cons_zero, List.set_cons_succ]
              refine take1 (i := 8) (d := some 71) (v := ?_) rfl rfl (by kernel_rfl) (by kernel_rfl) (by kernel_rfl) (fun _ _ _ h => h) (Or.inl ⟨by rfl, ?_⟩) ?_
              rotate_left
              · intro w; first | (go_simp; done) | (go_simp; with_reducible rfl)
              simp only [Act.put, List.setIfInBounds_toArray, List.set_cons_zero, List.set_cons_succ]
              refine take1 (i := 9) (d := some 72) (v := ?_) rfl rfl (by kernel_rfl) (by kernel_rfl) (by kernel_rfl) (fun _ _ _ h => h) (Or.inl ⟨by rfl, ?_⟩) ?_
              rotate_left
              · intro w; first | (go_simp; done) | (go_simp; with_reducible rfl)
              simp only [Act.put, List.setIfInBounds_toArray, List.set_cons_zero, List.set_cons_succ]
              refine wpAny_ready (rs := [11]) (by kernel_rfl) (by simp) ?_
              refine AllReady.cons rfl (fun K hK => ?_) AllReady.nil
              rw [if_pos (by rfl)]
              refine wp_store_row 32 _ _ rfl kn _ rfl rfl 32 _ HZ.out (by kernel_rfl) rfl (dc_one (spX y a) _ _ _ _ _ _) ?_
              refine hK _ _ ?_
              clear hK K
              change wpAny _ _ _ _ _ _ (Act.put _ none _) _
              generalize hwb : World.setRow _ _ _ = wb
              have HN : Hid (RowD wb kn 32 (spX y a) A3 c3 B3 d3 C3 e3) := Lib.hid (by rw [← hwb]; exact RowD.put HZ.out (spX y a) A3 c3 B3 d3 C3 e3)
              have HSN := Lib.hid (show RdS wb (fun g => g = k5 ∨ g = k6) A3 B3 C3 (spX y a) by rw [← hwb]; exact ((SN.out).row (.inr rfl) _).weak (fun g hg => .inl hg))
              have HBN := Lib.hid (show Below wr.heap.size wr wb by rw [← hwb]; exact belowRow hbx hge _)
              clear hwb
              try simp only [Act.put]
              refine take1 (i := 12) (d := some 13) (v := ?_) rfl rfl (by kernel_rfl) (by kernel_rfl) (by kernel_rfl) (fun _ _ _ h => h) (Or.inl ⟨by rfl, ?_⟩) ?_
              rotate_left
              · intro w; first | (go_simp; done) | (go_simp; with_reducible rfl)
              simp only [Act.put, List.setIfInBounds_toArray, List.set_cons_zero, List.set_cons_succ]
              refine take1 (i := 13) (d := some 14) (v := ?_) rfl rfl (by kernel_rfl) (by kernel_rfl) (by kernel_rfl) (fun _ _ _ h => h) (Or.inl ⟨by rfl, ?_⟩) ?_
              rotate_left
              · intro w; first | (go_simp; done) | (go_simp; with_reducible rfl)
              simp only [Act.put, List.setIfInBounds_toArray, List.set_cons_zero, List.set_cons_succ]
              refine wpAny_done (by kernel_rfl) ?_ _
              go_wp2_with fail
              go_meet
              exact ⟨kn, A3, c3, B3, d3, C3, e3, rfl, rfl, rfl, HN.out, HSN.out, HBN.out, hge⟩
            · skip
              try go_simp
              refine hK _ _ ?_
              clear hK K
              try simp only [Act.put, List.setIfInBounds_toArray, List.set_cons_zero, List.set_cons_succ]
              refine wpAny_ready (rs := [0]) (by kernel_rfl) (by simp) ?_
              refine AllReady.cons rfl (fun K hK => ?_) AllReady.nil
              rw [if_pos (by rfl)]
              refine wp_load_row 32 _ rfl k5 rfl 32 _ (0, 0) _ RX.out Try.underlying32 rfl (by kernel_rfl) ?_
              refine hK _ _ ?_
              clear hK K
              change wpAny _ _ _ _ _ _ (Act.put _ (some 64) _) _
              try simp only [Act.put, List.setIfInBounds_toArray, List.set_cons_zero, List.set_cons_succ]
              refine wpAny_ready (rs := [5]) (by kernel_rfl) (by simp) ?_
              refine AllReady.cons rfl (fun K hK => ?_) AllReady.nil
              rw [if_pos (by rfl)]
              try go_simp
              refine (Step_q y a A B C c d e wa ((SA0.out.keep hbx).rd) HSd.out.1 HSd.out.2).mono ?_
              rintro r w4 ⟨⟨A3, c3, B3, d3, C3, e3, rfl, hd⟩, hb⟩
              refine hK _ _ ?_
              clear hK K
              have SN := Lib.hid (safe13 SA0.out (Same3.spX y a) hbx hb HPS.out hge HZ.out.lt hd)
              replace RX := Lib.hid (RX.out.keep RX.out.lt hb)
              replace hca := keep_cell hb hca
              replace HZ := Lib.hid (HZ.out.keep HZ.out.lt hb)
              replace hbx := below_seq hbx hb
              clear hb hd
              rename World => wa
              try simp only [Act.put, List.setIfInBounds_toArray, List.set_cons_zero, List.set_cons_succ]
              refine take1 (i := 6) (d := some 63) (v := ?_) rfl rfl (by kernel_rfl) (by kernel_rfl) (by kernel_rfl) (fun _ _ _ h => h) (Or.inl ⟨by rfl, ?_⟩) ?_
              rotate_left
              · intro w; first | (go_simp; done) | (go_simp; with_reducible rfl)
              simp only [Act.put, List.setIfInBounds_toArray, List.set_cons_zero, List.set_cons_succ]
              refine take1 (i := 7) (d := some 70) (v := ?_) rfl rfl (by kernel_rfl) (by kernel_rfl) (by kernel_rfl) (fun _ _ _ h => h) (Or.inl ⟨by rfl, ?_⟩) ?_
              rotate_left
              · intro w; first | (go_simp; done) | (go_simp; with_reducible rfl)
              simp only [Act.put, List.setIfInBounds_toArray, List.set_cons_zero, List.set_cons_succ]
              refine take1 (i := 8) (d := some 71) (v := ?_) rfl rfl (by kernel_rfl) (by kernel_rfl) (by kernel_rfl) (fun _ _ _ h => h) (Or.inl ⟨by rfl, ?_⟩) ?_
              rotate_left
              · intro w; first | (go_simp; done) | (go_simp; with_reducible rfl)
              simp only [Act.put, List.setIfInBounds_toArray, List.set_cons_zero, List.set_cons_succ]
              refine take1 (i := 9) (d := some 72) (v := ?_) rfl rfl (by kernel_rfl) (by kernel_rfl) (by kernel_rfl) (fun _ _ _ h => h) (Or.inl ⟨by rfl, ?_⟩) ?_
              rotate_left
              · intro w; first | (go_simp; done) | (go_simp; with_reducible rfl)
              simp only [Act.put, List.setIfInBounds_toArray, List.set_cons_zero, List.set_cons_succ]
              refine wpAny_ready (rs := [11]) (by kernel_rfl) (by simp) ?_
              refine AllReady.cons rfl (fun K hK => ?_) AllReady.nil
              rw [if_pos (by rfl)]
              refine wp_store_row 32 _ _ rfl kn _ rfl rfl 32 _ HZ.out (by kernel_rfl) rfl (dc_one (spX y a) _ _ _ _ _ _) ?_
              refine hK _ _ ?_
              clear hK K
              change wpAny _ _ _ _ _ _ (Act.put _ none _) _
              generalize hwb : World.setRow _ _ _ = wb
              have HN : Hid (RowD wb kn 32 (spX y a) A3 c3 B3 d3 C3 e3) := Lib.hid (by rw [← hwb]; exact RowD.put HZ.out (spX y a) A3 c3 B3 d3 C3 e3)
              have HSN := Lib.hid (show RdS wb (fun g => g = k5 ∨ g = k6) A3 B3 C3 (spX y a) by rw [← hwb]; exact ((SN.out).row (.inr rfl) _).weak (fun g hg => .inl hg))
              have HBN := Lib.hid (show Below wr.heap.size wr wb by rw [← hwb]; exact belowRow hbx hge _)
              clear hwb
              try simp only [Act.put]
              refine take1 (i := 12) (d := some 13) (v := ?_) rfl rfl (by kernel_rfl) (by kernel_rfl) (by kernel_rfl) (fun _ _ _ h => h) (Or.inl ⟨by rfl, ?_⟩) ?_
              rotate_left
              · intro w; first | (go_simp; done) | (go_simp; with_reducible rfl)
              simp only [Act.put, List.setIfInBounds_toArray, List.set_cons_zero, List.set_cons_succ]
              refine take1 (i := 13) (d := some 14) (v := ?_) rfl rfl (by kernel_rfl) (by kernel_rfl) (by kernel_rfl) (fun _ _ _ h => h) (Or.inl ⟨by rfl, ?_⟩) ?_
              rotate_left
              · intro w; first | (go_simp; done) | (go_simp; with_reducible rfl)
              simp only [Act.put, List.setIfInBounds_toArray, List.set_cons_zero, List.set_cons_succ]
              refine wpAny_done (by kernel_rfl) ?_ _
              go_wp2_with fail
              go_meet
              exact ⟨kn, A3, c3, B3, d3, C3, e3, rfl, rfl, rfl, HN.out, HSN.out, HBN.out, hge⟩
      case rest =>
        clear RA0 SA0
        obtain ⟨k12, A3, c3, B3, d3, C3, e3, rfl, rfl, rfl, hRA, hSA, hbx, _⟩ := hcut
        have RA := Lib.hid hRA
        have SA := Lib.hid hSA
        clear hRA hSA
        have RB0 := Lib.hid (HQ.out.rb.keep HQ.out.rb.lt hbx)
        have SB0 := Lib.hid (HQ.out.sb.keep hbx)
        have hcb0 := Lib.hid (keep_cell hbx hca0.out)
        have HPT := Lib.hid (fun g hg => Nat.lt_of_lt_of_le (HP.out g hg) hbx.size)
        have HBX := Lib.hid hbx
        clear hca0 HPS hbx
        obtain ⟨wq, hwq⟩ : ∃ wq, wq = wc := ⟨_, rfl⟩
        rw [← hwq]
        rw [← hwq] at RA SA RB0 SB0 hcb0 HPT HBX
        clear hwq
        have hcell := hcb0.out
        go_upto_region 14 with fail
        clear hcell
        go_cut [15, 16, 17] (fun p u t wx => R13 wq (fun g => g = k5 ∨ g = k6) (spX y a) (.int .i64 (spO y a)) (.int .i64 (spE y a)) p u t wx)
        case first =>
            refine wp_region_any (by kernel_rfl) ?_
            change wpAny _ _ _ _ _ _ _ (World.drew _)
            generalize hwa : World.drew _ = wa
            have hbx : Below wq.heap.size wq wa := by rw [← hwa]; exact (Below.refl _ _).drew
            have RX := Lib.hid (RB0.out.keep RB0.out.lt hbx)
            have hca := keep_cell hbx hcb0.out
            clear hwa
            refine take1 (i := 1) (d := some 75) (v := ?_) rfl rfl (by kernel_rfl) (by kernel_rfl) (by kernel_rfl) (fun _ _ _ h => h) (Or.inl ⟨by rfl, ?_⟩) ?_
            rotate_left
            · intro w; first | (go_simp; done) | (go_simp; with_reducible rfl)
            simp only [Act.put, List.setIfInBounds_toArray, List.set_cons_zero, List.set_cons_succ]
            refine take1 (i := 2) (d := some 76) (v := ?_) rfl rfl (by kernel_rfl) (by kernel_rfl) (by kernel_rfl) (fun _ _ _ h => h) (Or.inl ⟨by rfl, ?_⟩) ?_
            rotate_left
            · intro w; first | (go_simp; done) | (go_simp; with_reducible rfl)
            simp only [Act.put, List.setIfInBounds_toArray, List.set_cons_zero, List.set_cons_succ]
            refine take1 (i := 3) (d := some 77) (v := ?_) rfl rfl (by kernel_rfl) (by kernel_rfl) (by kernel_rfl) (fun _ _ _ h => h) (Or.inl ⟨by rfl, ?_⟩) ?_
            rotate_left
            · intro w; first | (go_simp; done) | (go_simp; with_reducible rfl)
            simp only [Act.put, List.setIfInBounds_toArray, List.set_cons_zero, List.set_cons_succ]
            refine wpAny_ready (rs := [0, 4, 10]) (by kernel_rfl) (by simp) ?_
            refine AllReady.cons rfl (fun K hK => ?_) (AllReady.cons rfl (fun K hK => ?_) (AllReady.cons rfl (fun K hK => ?_) AllReady.nil))
            · skip
              rw [if_pos (by rfl)]
              refine wp_load_row 32 _ rfl k6 rfl 32 _ (0, 0) _ RX.out Try.underlying32 rfl (by kernel_rfl) ?_
              refine hK _ _ ?_
              clear hK K
              change wpAny _ _ _ _ _ _ (Act.put _ (some 74) _) _
              try simp only [Act.put, List.setIfInBounds_toArray, List.set_cons_zero, List.set_cons_succ]
              refine wpAny_ready (rs := [4, 10]) (by kernel_rfl) (by simp) ?_
              refine AllReady.cons rfl (fun K hK => ?_) (AllReady.cons rfl (fun K hK => ?_) AllReady.nil)
              · skip
                try go_simp
                refine hK _ _ ?_
                clear hK K
                try simp only [Act.put, List.setIfInBounds_toArray, List.set_cons_zero, List.set_cons_succ]
                refine wpAny_ready (rs := [5, 10]) (by kernel_rfl) (by simp) ?_
                refine AllReady.cons rfl (fun K hK => ?_) (AllReady.cons rfl (fun K hK => ?_) AllReady.nil)
                · skip
                  rw [if_pos (by rfl)]
                  try go_simp
                  refine (Step_s y a A2 B2 C2 c2 d2 e2 wa ((SB0.out.keep hbx).rd) HSd.out.1 HSd.out.2).mono ?_
                  rintro r w4 ⟨rfl, hb⟩
                  refine hK _ _ ?_
                  clear hK K
                  replace RX := Lib.hid (RX.out.keep RX.out.lt hb)
                  replace hca := keep_cell hb hca
                  replace hbx := below_seq hbx hb
                  clear hb
                  rename World => wa
                  try simp only [Act.put, List.setIfInBounds_toArray, List.set_cons_zero, List.set_cons_succ]
                  refine take1 (i := 6) (d := some 73) (v := ?_) rfl rfl (by kernel_rfl) (by kernel_rfl) (by kernel_rfl) (fun _ _ _ h => h) (Or.inl ⟨by rfl, ?_⟩) ?_
                  rotate_left
                  · intro w; first | (go_simp; done) | (go_simp; with_reducible rfl)
                  simp only [Act.put, List.setIfInBounds_toArray, List.set_cons_zero, List.set_cons_succ]
                  refine take1 (i := 7) (d := some 80) (v := ?_) rfl rfl (by kernel_rfl) (by kernel_rfl) (by kernel_rfl) (fun _ _ _ h => h) (Or.inl ⟨by rfl, ?_⟩) ?_
                  rotate_left
                  · intro w; first | (go_simp; done) | (go_simp; with_reducible rfl)
                  simp only [Act.put, List.setIfInBounds_toArray, List.set_cons_zero, List.set_cons_succ]
                  refine take1 (i := 8) (d := some 81) (v := ?_) rfl rfl (by kernel_rfl) (by kernel_rfl) (by kernel_rfl) (fun _ _ _ h => h) (Or.inl ⟨by rfl, ?_⟩) ?_
                  rotate_left
                  · intro w; first | (go_simp; done) | (go_simp; with_reducible rfl)
                  simp only [Act.put, List.setIfInBounds_toArray, List.set_cons_zero, List.set_cons_succ]
                  refine take1 (i := 9) (d := some 82) (v := ?_) rfl rfl (by kernel_rfl) (by kernel_rfl) (by kernel_rfl) (fun _ _ _ h => h) (Or.inl ⟨by rfl, ?_⟩) ?_
                  rotate_left
                  · intro w; first | (go_simp; done) | (go_simp; with_reducible rfl)
                  simp only [Act.put, List.setIfInBounds_toArray, List.set_cons_zero, List.set_cons_succ]
                  refine wpAny_ready (rs := [10]) (by kernel_rfl) (by simp) ?_
                  refine AllReady.cons rfl (fun K hK => ?_) AllReady.nil
                  rw [if_pos (by rfl)]
                  go_simp
                  refine hK _ _ ?_
                  clear hK K
                  try simp only [Act.put, List.setIfInBounds_toArray, List.set_cons_zero, List.set_cons_succ]
                  have hge := hbx.size
                  generalize hwb : World.alloc _ _ = wb
                  have HZ : Hid (RowD wb wa.heap.size 32 zeroD none 0 none 0 none 0) := Lib.hid (by rw [← hwb]; exact Go.heap_alloc_new _ _)
                  have hb : Below wa.heap.size wa wb := by rw [← hwb]; exact (Below.refl _ _).alloc (Nat.le_refl _) _
                  replace RX := Lib.hid (RX.out.keep RX.out.lt hb)
                  replace hca := keep_cell hb hca
                  replace hbx := below_seq hbx hb
                  clear hb
                  generalize wa.heap.size = kn at *
                  clear hwb
                  rename World => wa
                  try simp only [Act.put, List.setIfInBounds_toArray, List.set_cons_zero, List.set_cons_succ]
                  refine wpAny_ready (rs := [11]) (by kernel_rfl) (by simp) ?_
                  refine AllReady.cons rfl (fun K hK => ?_) AllReady.nil
                  rw [if_pos (by rfl)]
                  refine wp_store_row 32 _ _ rfl kn _ rfl rfl 32 _ HZ.out (by kernel_rfl) rfl (dc_one (spX y a) _ _ _ _ _ _) ?_
                  refine hK _ _ ?_
                  clear hK K
                  change wpAny _ _ _ _ _ _ (Act.put _ none _) _
                  generalize hwb : World.setRow _ _ _ = wb
                  have HN : Hid (RowD wb kn 32 (spX y a) A2 c2 B2 d2 C2 e2) := Lib.hid (by rw [← hwb]; exact RowD.put HZ.out (spX y a) A2 c2 B2 d2 C2 e2)
                  have HSN := Lib.hid (show RdS wb (fun g => g = k5 ∨ g = k6) A2 B2 C2 (spX y a) by rw [← hwb]; exact (((safe14 SB0.out (Same3.spX y a) hbx hge)).row (.inr rfl) _).weak (fun g hg => .inl hg))
                  have HBN := Lib.hid (show Below wq.heap.size wq wb by rw [← hwb]; exact belowRow hbx hge _)
                  clear hwb
                  try simp only [Act.put]
                  refine take1 (i := 12) (d := some 16) (v := ?_) rfl rfl (by kernel_rfl) (by kernel_rfl) (by kernel_rfl) (fun _ _ _ h => h) (Or.inl ⟨by rfl, ?_⟩) ?_
                  rotate_left
                  · intro w; first | (go_simp; done) | (go_simp; with_reducible rfl)
                  simp only [Act.put, List.setIfInBounds_toArray, List.set_cons_zero, List.set_cons_succ]
                  refine take1 (i := 13) (d := some 17) (v := ?_) rfl rfl (by kernel_rfl) (by kernel_rfl) (by kernel_rfl) (fun _ _ _ h => h) (Or.inl ⟨by rfl, ?_⟩) ?_
                  rotate_left
                  · intro w; first | (go_simp; done) | (go_simp; with_reducible rfl)
                  simp only [Act.put, List.setIfInBounds_toArray, List.set_cons_zero, List.set_cons_succ]
                  refine wpAny_done (by kernel_rfl) ?_ _
                  go_wp2_with fail
                  go_meet
                  exact ⟨kn, A2, c2, B2, d2, C2, e2, rfl, rfl, rfl, HN.out, HSN.out, HBN.out, hge⟩
                · skip
                  rw [if_pos (by rfl)]
                  go_simp
                  refine hK _ _ ?_
                  clear hK K
                  try simp only [Act.put, List.setIfInBounds_toArray, List.set_cons_zero, List.set_cons_succ]
                  have hge := hbx.size
                  generalize hwb : World.alloc _ _ = wb
                  have HZ : Hid (RowD wb wa.heap.size 32 zeroD none 0 none 0 none 0) := Lib.hid (by rw [← hwb]; exact Go.heap_alloc_new _ _)
                  have hb : Below wa.heap.size wa wb := by rw [← hwb]; exact (Below.refl _ _).alloc (Nat.le_refl _) _
                  replace RX := Lib.hid (RX.out.keep RX.out.lt hb)
                  replace hca := keep_cell hb hca
                  replace hbx := below_seq hbx hb
                  clear hb
                  generalize wa.heap.size = kn at *
                  clear hwb
                  rename World => wa
                  try simp only [Act.put, List.setIfInBounds_toArray, List.set_cons_zero, List.set_cons_succ]
                  refine wpAny_ready (rs := [5]) (by kernel_rfl) (by simp) ?_
                  refine AllReady.cons rfl (fun K hK => ?_) AllReady.nil
                  rw [if_pos (by rfl)]
                  try go_simp
                  refine (Step_s y a A2 B2 C2 c2 d2 e2 wa ((SB0.out.keep hbx).rd) HSd.out.1 HSd.out.2).mono ?_
                  rintro r w4 ⟨rfl, hb⟩
                  refine hK _ _ ?_
                  clear hK K
                  replace RX := Lib.hid (RX.out.keep RX.out.lt hb)
                  replace hca := keep_cell hb hca
                  replace HZ := Lib.hid (HZ.out.keep HZ.out.lt hb)
                  replace hbx := below_seq hbx hb
                  clear hb
                  rename World => wa
                  try simp only [Act.put, List.setIfInBounds_toArray, List.set_cons_zero, List.set_cons_succ]
                  refine take1 (i := 6) (d := some 73) (v := ?_) rfl rfl (by kernel_rfl) (by kernel_rfl) (by kernel_rfl) (fun _ _ _ h => h) (Or.inl ⟨by rfl, ?_⟩) ?_
                  rotate_left
                  · intro w; first | (go_simp; done) | (go_simp; with_reducible rfl)
                  simp only [Act.put, List.setIfInBounds_toArray, List.set_cons_zero, List.set_cons_succ]
                  refine take1 (i := 7) (d := some 80) (v := ?_) rfl rfl (by kernel_rfl) (by kernel_rfl) (by kernel_rfl) (fun _ _ _ h => h) (Or.inl ⟨by rfl, ?_⟩) ?_
                  rotate_left
                  · intro w; first | (go_simp; done) | (go_simp; with_reducible rfl)
                  simp only [Act.put, List.setIfInBounds_toArray, List.set_cons_zero, List.set_cons_succ]
                  refine take1 (i := 8) (d := some 81) (v := ?_) rfl rfl (by kernel_rfl) (by kernel_rfl) (by kernel_rfl) (fun _ _ _ h => h) (Or.inl ⟨by rfl, ?_⟩) ?_
                  rotate_left
                  · intro w; first | (go_simp; done) | (go_simp; with_reducible rfl)
                  simp only [Act.put, List.setIfInBounds_toArray, List.set_cons_zero, List.set_cons_succ]
                  refine take1 (i := 9) (d := some 82) (v := ?_) rfl rfl (by kernel_rfl) (by kernel_rfl) (by kernel_rfl) (fun _ _ _ h => h) (Or.inl ⟨by rfl, ?_⟩) ?_
                  rotate_left
                  · intro w; first | (go_simp; done) | (go_simp; with_reducible rfl)
                  simp only [Act.put, List.setIfInBounds_toArray, List.set_cons_zero, List.set_cons_succ]
                  refine wpAny_ready (rs := [11]) (by kernel_rfl) (by simp) ?_
                  refine AllReady.cons rfl (fun K hK => ?_) AllReady.nil
                  rw [if_pos (by rfl)]
                  refine wp_store_row 32 _ _ rfl kn _ rfl rfl 32 _ HZ.out (by kernel_rfl) rfl (dc_one (spX y a) _ _ _ _ _ _) ?_
                  refine hK _ _ ?_
                  clear hK K
                  change wpAny _ _ _ _ _ _ (Act.put _ none _) _
                  generalize hwb : World.setRow _ _ _ = wb
                  have HN : Hid (RowD wb kn 32 (spX y a) A2 c2 B2 d2 C2 e2) := Lib.hid (by rw [← hwb]; exact RowD.put HZ.out (spX y a) A2 c2 B2 d2 C2 e2)
                  have HSN := Lib.hid (show RdS wb (fun g => g = k5 ∨ g = k6) A2 B2 C2 (spX y a) by rw [← hwb]; exact (((safe14 SB0.out (Same3.spX y a) hbx hge)).row (.inr rfl) _).weak (fun g hg => .inl hg))
                  have HBN := Lib.hid (show Below wq.heap.size wq wb by rw [← hwb]; exact belowRow hbx hge _)
                  clear hwb
                  try simp only [Act.put]
                  refine take1 (i := 12) (d := some 16) (v := ?_) rfl rfl (by kernel_rfl) (by kernel_rfl) (by kernel_rfl) (fun _ _ _ h => h) (Or.inl ⟨by rfl, ?_⟩) ?_
                  rotate_left
                  · intro w; first | (go_simp; done) | (go_simp; with_reducible rfl)
                  simp only [Act.put, List.setIfInBounds_toArray, List.set_cons_zero, List.set_cons_succ]
                  refine take1 (i := 13) (d := some 17) (v := ?_) rfl rfl (by kernel_rfl) (by kernel_rfl) (by kernel_rfl) (fun _ _ _ h => h) (Or.inl ⟨by rfl, ?_⟩) ?_
                  rotate_left
                  · intro w; first | (go_simp; done) | (go_simp; with_reducible rfl)
                  simp only [Act.put, List.setIfInBounds_toArray, List.set_cons_zero, List.set_cons_succ]
                  refine wpAny_done (by kernel_rfl) ?_ _
                  go_wp2_with fail
                  go_meet
                  exact ⟨kn, A2, c2, B2, d2, C2, e2, rfl, rfl, rfl, HN.out, HSN.out, HBN.out, hge⟩
              · skip
                rw [if_pos (by rfl)]
                go_simp
                refine hK _ _ ?_
                clear hK K
                try simp only [Act.put, List.setIfInBounds_toArray, List.set_cons_zero, List.set_cons_succ]
                have hge := hbx.size
                generalize hwb : World.alloc _ _ = wb
                have HZ : Hid (RowD wb wa.heap.size 32 zeroD none 0 none 0 none 0) := Lib.hid (by rw [← hwb]; exact Go.heap_alloc_new _ _)
                have hb : Below wa.heap.size wa wb := by rw [← hwb]; exact (Below.refl _ _).alloc (Nat.le_refl _) _
                replace RX := Lib.hid (RX.out.keep RX.out.lt hb)
                replace hca := keep_cell hb hca
                replace hbx := below_seq hbx hb
                clear hb
                generalize wa.heap.size = kn at *
                clear hwb
                rename World => wa
                try simp only [Act.put, List.setIfInBounds_toArray, List.set_cons_zero, List.set_cons_succ]
                refine wpAny_ready (rs := [4]) (by kernel_rfl) (by simp) ?_
                refine AllReady.cons rfl (fun K hK => ?_) AllReady.nil
                try go_simp
                refine hK _ _ ?_
                clear hK K
                try simp only [Act.put, List.setIfInBounds_toArray, List.set_cons_zero, List.set_cons_succ]
                refine wpAny_ready (rs := [5]) (by kernel_rfl) (by simp) ?_
                refine AllReady.cons rfl (fun K hK => ?_) AllReady.nil
                rw [if_pos (by rfl)]
                try go_simp
                refine (Step_s y a A2 B2 C2 c2 d2 e2 wa ((SB0.out.keep hbx).rd) HSd.out.1 HSd.out.2).mono ?_
                rintro r w4 ⟨rfl, hb⟩
                refine hK _ _ ?_
                clear hK K
                replace RX := Lib.hid (RX.out.keep RX.out.lt hb)
                replace hca := keep_cell hb hca
                replace HZ := Lib.hid (HZ.out.keep HZ.out.lt hb)
                replace hbx := below_seq hbx hb
                clear hb
                rename World => wa
                try simp only [Act.put, List.setIfInBounds_toArray, List.set_cons_zero, List.set_cons_succ]
                refine take1 (i := 6) (d := some 73) (v := ?_) rfl rfl (by kernel_rfl) (by kernel_rfl) (by kernel_rfl) (fun _ _ _ h => h) (Or.inl ⟨by rfl, ?_⟩) ?_
                rotate_left
                · intro w; first | (go_simp; done) | (go_simp; with_reducible rfl)
                simp only [Act.put, List.setIfInBounds_toArray, List.set_cons_zero, List.set_cons_succ]
                refine take1 (i := 7) (d := some 80) (v := ?_) rfl rfl (by kernel_rfl) (by kernel_rfl) (by kernel_rfl) (fun _ _ _ h => h) (Or.inl ⟨by rfl, ?_⟩) ?_
                rotate_left
                · intro w; first | (go_simp; done) | (go_simp; with_reducible rfl)
                simp only [Act.put, List.setIfInBounds_toArray, List.set_cons_zero, List.set_cons_succ]
                refine take1 (i := 8) (d := some 81) (v := ?_) rfl rfl (by kernel_rfl) (by kernel_rfl) (by kernel_rfl) (fun _ _ _ h => h) (Or.inl ⟨by rfl, ?_⟩) ?_
                rotate_left
                · intro w; first | (go_simp; done) | (go_simp; with_reducible rfl)
                simp only [Act.put, List.setIfInBounds_toArray, List.set_cons_zero, List.set_cons_succ]
                refine take1 (i := 9) (d := some 82) (v := ?_) rfl rfl (by kernel_rfl) (by kernel_rfl) (by kernel_rfl) (fun _ _ _ h => h) (Or.inl ⟨by rfl, ?_⟩) ?_
                rotate_left
                · intro w; first | (go_simp; done) | (go_simp; with_reducible rfl)
                simp only [Act.put, List.setIfInBounds_toArray, List.set_cons_zero, List.set_cons_succ]
                refine wpAny_ready (rs := [11]) (by kernel_rfl) (by simp) ?_
                refine AllReady.cons rfl (fun K hK => ?_) AllReady.nil
                rw [if_pos (by rfl)]
                refine wp_store_row 32 _ _ rfl kn _ rfl rfl 32 _ HZ.out (by kernel_rfl) rfl (dc_one (spX y a) _ _ _ _ _ _) ?_
                refine hK _ _ ?_
                clear hK K
                change wpAny _ _ _ _ _ _ (Act.put _ none _) _
                generalize hwb : World.setRow _ _ _ = wb
                have HN : Hid (RowD wb kn 32 (spX y a) A2 c2 B2 d2 C2 e2) := Lib.hid (by rw [← hwb]; exact RowD.put HZ.out (spX y a) A2 c2 B2 d2 C2 e2)
                have HSN := Lib.hid (show RdS wb (fun g => g = k5 ∨ g = k6) A2 B2 C2 (spX y a) by rw [← hwb]; exact (((safe14 SB0.out (Same3.spX y a) hbx hge)).row (.inr rfl) _).weak (fun g hg => .inl hg))
                have HBN := Lib.hid (show Below wq.heap.size wq wb by rw [← hwb]; exact belowRow hbx hge _)
                clear hwb
                try simp only [Act.put]
                refine take1 (i := 12) (d := some 16) (v := ?_) rfl rfl (by kernel_rfl) (by kernel_rfl) (by kernel_rfl) (fun _ _ _ h => h) (Or.inl ⟨by rfl, ?_⟩) ?_
                rotate_left
                · intro w; first | (go_simp; done) | (go_simp; with_reducible rfl)
                simp only [Act.put, List.setIfInBounds_toArray, List.set_cons_zero, List.set_cons_succ]
                refine take1 (i := 13) (d := some 17) (v := ?_) rfl rfl (by kernel_rfl) (by kernel_rfl) (by kernel_rfl) (fun _ _ _ h => h) (Or.inl ⟨by rfl, ?_⟩) ?_
                rotate_left
                · intro w; first | (go_simp; done) | (go_simp; with_reducible rfl)
                simp only [Act.put, List.setIfInBounds_toArray, List.set_cons_zero, List.set_cons_succ]
                refine wpAny_done (by kernel_rfl) ?_ _
                go_wp2_with fail
                go_meet
                exact ⟨kn, A2, c2, B2, d2, C2, e2, rfl, rfl, rfl, HN.out, HSN.out, HBN.out, hge⟩
            · skip
              try go_simp
              refine hK _ _ ?_
              clear hK K
              try simp only [Act.put, List.setIfInBounds_toArray, List.set_cons_zero, List.set_cons_succ]
              refine wpAny_ready (rs := [0, 10]) (by kernel_rfl) (by simp) ?_
              refine AllReady.cons rfl (fun K hK => ?_) (AllReady.cons rfl (fun K hK => ?_) AllReady.nil)
              · skip
                rw [if_pos (by rfl)]
                refine wp_load_row 32 _ rfl k6 rfl 32 _ (0, 0) _ RX.out Try.underlying32 rfl (by kernel_rfl) ?_
                refine hK _ _ ?_
                clear hK K
                change wpAny _ _ _ _ _ _ (Act.put _ (some 74) _) _
                try simp only [Act.put, List.setIfInBounds_toArray, List.set_cons_zero, List.set_cons_succ]
                refine wpAny_ready (rs := [5, 10]) (by kernel_rfl) (by simp) ?_
                refine AllReady.cons rfl (fun K hK => ?_) (AllReady.cons rfl (fun K hK => ?_) AllReady.nil)
                · skip
                  rw [if_pos (by rfl)]
                  try go_simp
                  refine (Step_s y a A2 B2 C2 c2 d2 e2 wa ((SB0.out.keep hbx).rd) HSd.out.1 HSd.out.2).mono ?_
                  rintro r w4 ⟨rfl, hb⟩
                  refine hK _ _ ?_
                  clear hK K
                  replace RX := Lib.hid (RX.out.keep RX.out.lt hb)
                  replace hca := keep_cell hb hca
                  replace hbx := below_seq hbx hb
                  clear hb
                  rename World => wa
                  try simp only [Act.put, List.setIfInBounds_toArray, List.set_cons_zero, List.set_cons_succ]
                  refine take1 (i := 6) (d := some 73) (v := ?_) rfl rfl (by kernel_rfl) (by kernel_rfl) (by kernel_rfl) (fun _ _ _ h => h) (Or.inl ⟨by rfl, ?_⟩) ?_
                  rotate_left
                  · intro w; first | (go_simp; done) | (go_simp; with_reducible rfl)
                  simp only [Act.put, List.setIfInBounds_toArray, List.set_cons_zero, List.set_cons_succ]
                  refine take1 (i := 7) (d := some 80) (v := ?_) rfl rfl (by kernel_rfl) (by kernel_rfl) (by kernel_rfl) (fun _ _ _ h => h) (Or.inl ⟨by rfl, ?_⟩) ?_
                  rotate_left
                  · intro w; first | (go_simp; done) | (go_simp; with_reducible rfl)
                  simp only [Act.put, List.setIfInBounds_toArray, List.set_cons_zero, List.set_cons_succ]
                  refine take1 (i := 8) (d := some 81) (v := ?_) rfl rfl (by kernel_rfl) (by kernel_rfl) (by kernel_rfl) (fun _ _ _ h => h) (Or.inl ⟨by rfl, ?_⟩) ?_
                  rotate_left
                  · intro w; first | (go_simp; done) | (go_simp; with_reducible rfl)
                  simp only [Act.put, List.setIfInBounds_toArray, List.set_cons_zero, List.set_cons_succ]
                  refine take1 (i := 9) (d := some 82) (v := ?_) rfl rfl (by kernel_rfl) (by kernel_rfl) (by kernel_rfl) (fun _ _ _ h => h) (Or.inl ⟨by rfl, ?_⟩) ?_
                  rotate_left
                  · intro w; first | (go_simp; done) | (go_simp; with_reducible rfl)
                  simp only [Act.put, List.setIfInBounds_toArray, List.set_cons_zero, List.set_cons_succ]
                  refine wpAny_ready (rs := [10]) (by kernel_rfl) (by simp) ?_
                  refine AllReady.cons rfl (fun K hK => ?_) AllReady.nil
                  rw [if_pos (by rfl)]
                  go_simp
                  refine hK _ _ ?_
                  clear hK K
                  try simp only [Act.put, List.setIfInBounds_toArray, List.set_cons_zero, List.set_cons_succ]
                  have hge := hbx.size
                  generalize hwb : World.alloc _ _ = wb
                  have HZ : Hid (RowD wb wa.heap.size 32 zeroD none 0 none 0 none 0) := Lib.hid (by rw [← hwb]; exact Go.heap_alloc_new _ _)
                  have hb : Below wa.heap.size wa wb := by rw [← hwb]; exact (Below.refl _ _).alloc (Nat.le_refl _) _
                  replace RX := Lib.hid (RX.out.keep RX.out.lt hb)
                  replace hca := keep_cell hb hca
                  replace hbx := below_seq hbx hb
                  clear hb
                  generalize wa.heap.size = kn at *
                  clear hwb
                  rename World => wa
                  try simp only [Act.put, List.setIfInBounds_toArray, List.set_cons_zero, List.set_cons_succ]
                  refine wpAny_ready (rs := [11]) (by kernel_rfl) (by simp) ?_
                  refine AllReady.cons rfl (fun K hK => ?_) AllReady.nil
                  rw [if_pos (by rfl)]
                  refine wp_store_row 32 _ _ rfl kn _ rfl rfl 32 _ HZ.out (by kernel_rfl) rfl (dc_one (spX y a) _ _ _ _ _ _) ?_
                  refine hK _ _ ?_
                  clear hK K
                  change wpAny _ _ _ _ _ _ (Act.put _ none _) _
                  generalize hwb : World.setRow _ _ _ = wb
                  have HN : Hid (RowD wb kn 32 (spX y a) A2 c2 B2 d2 C2 e2) := Lib.hid (by rw [← hwb]; exact RowD.put HZ.out (spX y a) A2 c2 B2 d2 C2 e2)
                  have HSN := Lib.hid (show RdS wb (fun g => g = k5 ∨ g = k6) A2 B2 C2 (spX y a) by rw [← hwb]; exact (((safe14 SB0.out (Same3.spX y a) hbx hge)).row (.inr rfl) _).weak (fun g hg => .inl hg))
                  have HBN := Lib.hid (show Below wq.heap.size wq wb by rw [← hwb]; exact belowRow hbx hge _)
                  clear hwb
                  try simp only [Act.put]
                  refine take1 (i := 12) (d := some 16) (v := ?_) rfl rfl (by kernel_rfl) (by kernel_rfl) (by kernel_rfl) (fun _ _ _ h => h) (Or.inl ⟨by rfl, ?_⟩) ?_
                  rotate_left
                  · intro w; first | (go_simp; done) | (go_simp; with_reducible rfl)
                  simp only [Act.put, List.setIfInBounds_toArray, List.set_cons_zero, List.set_cons_succ]
                  refine take1 (i := 13) (d := some 17) (v := ?_) rfl rfl (by kernel_rfl) (by kernel_rfl) (by kernel_rfl) (fun _ _ _ h => h) (Or.inl ⟨by rfl, ?_⟩) ?_
                  rotate_left
                  · intro w; first | (go_simp; done) | (go_simp; with_reducible rfl)
                  simp only [Act.put, List.setIfInBounds_toArray, List.set_cons_zero, List.set_cons_succ]
                  refine wpAny_done (by kernel_rfl) ?_ _
                  go_wp2_with fail
                  go_meet
                  exact ⟨kn, A2, c2, B2, d2, C2, e2, rfl, rfl, rfl, HN.out, HSN.out, HBN.out, hge⟩
                · skip
                  rw [if_pos (by rfl)]
                  go_simp
                  refine hK _ _ ?_
                  clear hK K
                  try simp only [Act.put, List.setIfInBounds_toArray, List.set_cons_zero, List.set_cons_succ]
                  have hge := hbx.size
                  generalize hwb : World.alloc _ _ = wb
                  have HZ : Hid (RowD wb wa.heap.size 32 zeroD none 0 none 0 none 0) := Lib.hid (by rw [← hwb]; exact Go.heap_alloc_new _ _)
                  have hb : Below wa.heap.size wa wb := by rw [← hwb]; exact (Below.refl _ _).alloc (Nat.le_refl _) _
                  replace RX := Lib.hid (RX.out.keep RX.out.lt hb)
                  replace hca := keep_cell hb hca
                  replace hbx := below_seq hbx hb
                  clear hb
                  generalize wa.heap.size = kn at *
                  clear hwb
                  rename World => wa
                  try simp only [Act.put, List.setIfInBounds_toArray, List.set_cons_zero, List.set_cons_succ]
                  refine wpAny_ready (rs := [5]) (by kernel_rfl) (by simp) ?_
                  refine AllReady.cons rfl (fun K hK => ?_) AllReady.nil
                  rw [if_pos (by rfl)]
                  try go_simp
                  refine (Step_s y a A2 B2 C2 c2 d2 e2 wa ((SB0.out.keep hbx).rd) HSd.out.1 HSd.out.2).mono ?_
                  rintro r w4 ⟨rfl, hb⟩
                  refine hK _ _ ?_
                  clear hK K
                  replace RX := Lib.hid (RX.out.keep RX.out.lt hb)
                  replace hca := keep_cell hb hca
                  replace HZ := Lib.hid (HZ.out.keep HZ.out.lt hb)
                  replace hbx := below_seq hbx hb
                  clear hb
                  rename World => wa
                  try simp only [Act.put, List.setIfInBounds_toArray, List.set_cons_zero, List.set_cons_succ]
                  refine take1 (i := 6) (d := some 73) (v := ?_) rfl rfl (by kernel_rfl) (by kernel_rfl) (by kernel_rfl) (fun _ _ _ h => h) (Or.inl ⟨by rfl, ?_⟩) ?_
                  rotate_left
                  · intro w; first | (go_simp; done) | (go_simp; with_reducible rfl)
                  simp only [Act.put, List.setIfInBounds_toArray, List.set_cons_zero, List.set_cons_succ]
                  refine take1 (i := 7) (d := some 80) (v := ?_) rfl rfl (by kernel_rfl) (by kernel_rfl) (by kernel_rfl) (fun _ _ _ h => h) (Or.inl ⟨by rfl, ?_⟩) ?_
                  rotate_left
                  · intro w; first | (go_simp; done) | (go_simp; with_reducible rfl)
                  simp only [Act.put, List.setIfInBounds_toArray, List.set_cons_zero, List.set_cons_succ]
                  refine take1 (i := 8) (d := some 81) (v := ?_) rfl rfl (by kernel_rfl) (by kernel_rfl) (by kernel_rfl) (fun _ _ _ h => h) (Or.inl ⟨by rfl, ?_⟩) ?_
                  rotate_left
                  · intro w; first | (go_simp; done) | (go_simp; with_reducible rfl)
                  simp only [Act.put, List.setIfInBounds_toArray, List.set_cons_zero, List.set_cons_succ]
                  refine take1 (i := 9) (d := some 82) (v := ?_) rfl rfl (by kernel_rfl) (by kernel_rfl) (by kernel_rfl) (fun _ _ _ h => h) (Or.inl ⟨by rfl, ?_⟩) ?_
                  rotate_left
                  · intro w; first | (go_simp; done) | (go_simp; with_reducible rfl)
                  simp only [Act.put, List.setIfInBounds_toArray, List.set_cons_zero, List.set_cons_succ]
                  refine wpAny_ready (rs := [11]) (by kernel_rfl) (by simp) ?_
                  refine AllReady.cons rfl (fun K hK => ?_) AllReady.nil
                  rw [if_pos (by rfl)]
                  refine wp_store_row 32 _ _ rfl kn _ rfl rfl 32 _ HZ.out (by kernel_rfl) rfl (dc_one (spX y a) _ _ _ _ _ _) ?_
                  refine hK _ _ ?_
                  clear hK K
                  change wpAny _ _ _ _ _ _ (Act.put _ none _) _
                  generalize hwb : World.setRow _ _ _ = wb
                  have HN : Hid (RowD wb kn 32 (spX y a) A2 c2 B2 d2 C2 e2) := Lib.hid (by rw [← hwb]; exact RowD.put HZ.out (spX y a) A2 c2 B2 d2 C2 e2)
                  have HSN := Lib.hid (show RdS wb (fun g => g = k5 ∨ g = k6) A2 B2 C2 (spX y a) by rw [← hwb]; exact (((safe14 SB0.out (Same3.spX y a) hbx hge)).row (.inr rfl) _).weak (fun g hg => .inl hg))
                  have HBN := Lib.hid (show Below wq.heap.size wq wb by rw [← hwb]; exact belowRow hbx hge _)
                  clear hwb
                  try simp only [Act.put]
                  refine take1 (i := 12) (d := some 16) (v := ?_) rfl rfl (by kernel_rfl) (by kernel_rfl) (by kernel_rfl) (fun _ _ _ h => h) (Or.inl ⟨by rfl, ?_⟩) ?_
                  rotate_left
                  · intro w; first | (go_simp; done) | (go_simp; with_reducible rfl)
                  simp only [Act.put, List.setIfInBounds_toArray, List.set_cons_zero, List.set_cons_succ]
                  refine take1 (i := 13) (d := some 17) (v := ?_) rfl rfl (by kernel_rfl) (by kernel_rfl) (by kernel_rfl) (fun _ _ _ h => h) (Or.inl ⟨by rfl, ?_⟩) ?_
                  rotate_left
                  · intro w; first | (go_simp; done) | (go_simp; with_reducible rfl)
                  simp only [Act.put, List.setIfInBounds_toArray, List.set_cons_zero, List.set_cons_succ]
                  refine wpAny_done (by kernel_rfl) ?_ _
                  go_wp2_with fail
                  go_meet
                  exact ⟨kn, A2, c2, B2, d2, C2, e2, rfl, rfl, rfl, HN.out, HSN.out, HBN.out, hge⟩
              · skip
                rw [if_pos (by rfl)]
                go_simp
                refine hK _ _ ?_
                clear hK K
                try simp only [Act.put, List.setIfInBounds_toArray, List.set_cons_zero, List.set_cons_succ]
                have hge := hbx.size
                generalize hwb : World.alloc _ _ = wb
                have HZ : Hid (RowD wb wa.heap.size 32 zeroD none 0 none 0 none 0) := Lib.hid (by rw [← hwb]; exact Go.heap_alloc_new _ _)
                have hb : Below wa.heap.size wa wb := by rw [← hwb]; exact (Below.refl _ _).alloc (Nat.le_refl _) _
                replace RX := Lib.hid (RX.out.keep RX.out.lt hb)
                replace hca := keep_cell hb hca
                replace hbx := below_seq hbx hb
                clear hb
                generalize wa.heap.size = kn at *
                clear hwb
                rename World => wa
                try simp only [Act.put, List.setIfInBounds_toArray, List.set_cons_zero, List.set_cons_succ]
                refine wpAny_ready (rs := [0]) (by kernel_rfl) (by simp) ?_
                refine AllReady.cons rfl (fun K hK => ?_) AllReady.nil
                rw [if_pos (by rfl)]
                refine wp_load_row 32 _ rfl k6 rfl 32 _ (0, 0) _ RX.out Try.underlying32 rfl (by kernel_rfl) ?_
                refine hK _ _ ?_
                clear hK K
                change wpAny _ _ _ _ _ _ (Act.put _ (some 74) _) _
                try simp only [Act.put, List.setIfInBounds_toArray, List.set_cons_zero, List.set_cons_succ]
                refine wpAny_ready (rs := [5]) (by kernel_rfl) (by simp) ?_
                refine AllReady.cons rfl (fun K hK => ?_) AllReady.nil
                rw [if_pos (by rfl)]
                try go_simp
                refine (Step_s y a A2 B2 C2 c2 d2 e2 wa ((SB0.out.keep hbx).rd) HSd.out.1 HSd.out.2).mono ?_
                rintro r w4 ⟨rfl, hb⟩
                refine hK _ _ ?_
                clear hK K
                replace RX := Lib.hid (RX.out.keep RX.out.lt hb)
                replace hca := keep_cell hb hca
                replace HZ := Lib.hid (HZ.out.keep HZ.out.lt hb)
                replace hbx := below_seq hbx hb
                clear hb
                rename World => wa
                try simp only [Act.put, List.setIfInBounds_toArray, List.set_cons_zero, List.set_cons_succ]
                refine take1 (i := 6) (d := some 73) (v := ?_) rfl rfl (by kernel_rfl) (by kernel_rfl) (by kernel_rfl) (fun _ _ _ h => h) (Or.inl ⟨by rfl, ?_⟩) ?_
                rotate_left
                · intro w; first | (go_simp; done) | (go_simp; with_reducible rfl)
                simp only [Act.put, List.setIfInBounds_toArray, List.set_cons_zero, List.set_cons_succ]
                refine take1 (i := 7) (d := some 80) (v := ?_) rfl rfl (by kernel_rfl) (by kernel_rfl) (by kernel_rfl) (fun _ _ _ h => h) (Or.inl ⟨by rfl, ?_⟩) ?_
                rotate_left
                · intro w; first | (go_simp; done) | (go_simp; with_reducible rfl)
                simp only [Act.put, List.setIfInBounds_toArray, List.set_cons_zero, List.set_cons_succ]
                refine take1 (i := 8) (d := some 81) (v := ?_) rfl rfl (by kernel_rfl) (by kernel_rfl) (by kernel_rfl) (fun _ _ _ h => h) (Or.inl ⟨by rfl, ?_⟩) ?_
                rotate_left
                · intro w; first | (go_simp; done) | (go_simp; with_reducible rfl)
                simp only [Act.put, List.setIfInBounds_toArray, List.set_cons_zero, List.set_cons_succ]
                refine take1 (i := 9) (d := some 82) (v := ?_) rfl rfl (by kernel_rfl) (by kernel_rfl) (by kernel_rfl) (fun _ _ _ h => h) (Or.inl ⟨by rfl, ?_⟩) ?_
                rotate_left
                · intro w; first | (go_simp; done) | (go_simp; with_reducible rfl)
                simp only [Act.put, List.setIfInBounds_toArray, List.set_cons_zero, List.set_cons_succ]
                refine wpAny_ready (rs := [11]) (by kernel_rfl) (by simp) ?_
                refine AllReady.cons rfl (fun K hK => ?_) AllReady.nil
                rw [if_pos (by rfl)]
                refine wp_store_row 32 _ _ rfl kn _ rfl rfl 32 _ HZ.out (by kernel_rfl) rfl (dc_one (spX y a) _ _ _ _ _ _) ?_
                refine hK _ _ ?_
                clear hK K
                change wpAny _ _ _ _ _ _ (Act.put _ none _) _
                generalize hwb : World.setRow _ _ _ = wb
                have HN : Hid (RowD wb kn 32 (spX y a) A2 c2 B2 d2 C2 e2) := Lib.hid (by rw [← hwb]; exact RowD.put HZ.out (spX y a) A2 c2 B2 d2 C2 e2)
                have HSN := Lib.hid (show RdS wb (fun g => g = k5 ∨ g = k6) A2 B2 C2 (spX y a) by rw [← hwb]; exact (((safe14 SB0.out (Same3.spX y a) hbx hge)).row (.inr rfl) _).weak (fun g hg => .inl hg))
                have HBN := Lib.hid (show Below wq.heap.size wq wb by rw [← hwb]; exact belowRow hbx hge _)
                clear hwb
                try simp only [Act.put]
                refine take1 (i := 12) (d := some 16) (v := ?_) rfl rfl (by kernel_rfl) (by kernel_rfl) (by kernel_rfl) (fun _ _ _ h => h) (Or.inl ⟨by rfl, ?_⟩) ?_
                rotate_left
                · intro w; first | (go_simp; done) | (go_simp; with_reducible rfl)
                simp only [Act.put, List.setIfInBounds_toArray, List.set_cons_zero, List.set_cons_succ]
                refine take1 (i := 13) (d := some 17) (v := ?_) rfl rfl (by kernel_rfl) (by kernel_rfl) (by kernel_rfl) (fun _ _ _ h => h) (Or.inl ⟨by rfl, ?_⟩) ?_
                rotate_left
                · intro w; first | (go_simp; done) | (go_simp; with_reducible rfl)
                simp only [Act.put, List.setIfInBounds_toArray, List.set_cons_zero, List.set_cons_succ]
                refine wpAny_done (by kernel_rfl) ?_ _
                go_wp2_with fail
                go_meet
                exact ⟨kn, A2, c2, B2, d2, C2, e2, rfl, rfl, rfl, HN.out, HSN.out, HBN.out, hge⟩
            · skip
              rw [if_pos (by rfl)]
              go_simp
              refine hK _ _ ?_
              clear hK K
              try simp only [Act.put, List.setIfInBounds_toArray, List.set_cons_zero, List.set_cons_succ]
              have hge := hbx.size
              generalize hwb : World.alloc _ _ = wb
              have HZ : Hid (RowD wb wa.heap.size 32 zeroD none 0 none 0 none 0) := Lib.hid (by rw [← hwb]; exact Go.heap_alloc_new _ _)
              have hb : Below wa.heap.size wa wb := by rw [← hwb]; exact (Below.refl _ _).alloc (Nat.le_refl _) _
              replace RX := Lib.hid (RX.out.keep RX.out.lt hb)
              replace hca := keep_cell hb hca
              replace hbx := below_seq hbx hb
              clear hb
              generalize wa.heap.size = kn at *
              clear hwb
              rename World => wa
              try simp only [Act.put, List.setIfInBounds_toArray, List.set_cons_zero, List.set_cons_succ]
              refine wpAny_ready (rs := [0, 4]) (by kernel_rfl) (by simp) ?_
              refine AllReady.cons rfl (fun K hK => ?_) (AllReady.cons rfl (fun K hK => ?_) AllReady.nil)
              · skip
                rw [if_pos (by rfl)]
                refine wp_load_row 32 _ rfl k6 rfl 32 _ (0, 0) _ RX.out Try.underlying32 rfl (by kernel_rfl) ?_
                refine hK _ _ ?_
                clear hK K
                change wpAny _ _ _ _ _ _ (Act.put _ (some 74) _) _
                try simp only [Act.put, List.setIfInBounds_toArray, List.set_cons_zero, List.set_cons_succ]
                refine wpAny_ready (rs := [4]) (by kernel_rfl) (by simp) ?_
                refine AllReady.cons rfl (fun K hK => ?_) AllReady.nil
                try go_simp
                refine hK _ _ ?_
                clear hK K
                try simp only [Act.put, List.setIfInBounds_toArray, List.set_cons_zero, List.set_cons_succ]
                refine wpAny_ready (rs := [5]) (by kernel_rfl) (by simp) ?_
                refine AllReady.cons rfl (fun K hK => ?_) AllReady.nil
                rw [if_pos (by rfl)]
                try go_simp
                refine (Step_s y a A2 B2 C2 c2 d2 e2 wa ((SB0.out.keep hbx).rd) HSd.out.1 HSd.out.2).mono ?_
                rintro r w4 ⟨rfl, hb⟩
                refine hK _ _ ?_
                clear hK K
                replace RX := Lib.hid (RX.out.keep RX.out.lt hb)
                replace hca := keep_cell hb hca
                replace HZ := Lib.hid (HZ.out.keep HZ.out.lt hb)
                replace hbx := below_seq hbx hb
                clear hb
                rename World => wa
                try simp only [Act.put, List.setIfInBounds_toArray, List.set_cons_zero, List.set_cons_succ]
                refine take1 (i := 6) (d := some 73) (v := ?_) rfl rfl (by kernel_rfl) (by kernel_rfl) (by kernel_rfl) (fun _ _ _ h => h) (Or.inl ⟨by rfl, ?_⟩) ?_
                rotate_left
                · intro w; first | (go_simp; done) | (go_simp; with_reducible rfl)
                simp only [Act.put, List.setIfInBounds_toArray, List.set_cons_zero, List.set_cons_succ]
                refine take1 (i := 7) (d := some 80) (v := ?_) rfl rfl (by kernel_rfl) (by kernel_rfl) (by kernel_rfl) (fun _ _ _ h => h) (Or.inl ⟨by rfl, ?_⟩) ?_
                rotate_left
                · intro w; first | (go_simp; done) | (go_simp; with_reducible rfl)
                simp only [Act.put, List.setIfInBounds_toArray, List.set_cons_zero, List.set_cons_succ]
                refine take1 (i := 8) (d := some 81) (v := ?_) rfl rfl (by kernel_rfl) (by kernel_rfl) (by kernel_rfl) (fun _ _ _ h => h) (Or.inl ⟨by rfl, ?_⟩) ?_
                rotate_left
                · intro w; first | (go_simp; done) | (go_simp; with_reducible rfl)
                simp only [Act.put, List.setIfInBounds_toArray, List.set_cons_zero, List.set_cons_succ]
                refine take1 (i := 9) (d := some 82) (v := ?_) rfl rfl (by kernel_rfl) (by kernel_rfl) (by kernel_rfl) (fun _ _ _ h => h) (Or.inl ⟨by rfl, ?_⟩) ?_
                rotate_left
                · intro w; first | (go_simp; done) | (go_simp; with_reducible rfl)
                simp only [Act.put, List.setIfInBounds_toArray, List.set_cons_zero, List.set_cons_succ]
                refine wpAny_ready (rs := [11]) (by kernel_rfl) (by simp) ?_
                refine AllReady.cons rfl (fun K hK => ?_) AllReady.nil
                rw [if_pos (by rfl)]
                refine wp_store_row 32 _ _ rfl kn _ rfl rfl 32 _ HZ.out (by kernel_rfl) rfl (dc_one (spX y a) _ _ _ _ _ _) ?_
                refine hK _ _ ?_
                clear hK K
                change wpAny _ _ _ _ _ _ (Act.put _ none _) _
                generalize hwb : World.setRow _ _ _ = wb
                have HN : Hid (RowD wb kn 32 (spX y a) A2 c2 B2 d2 C2 e2) := Lib.hid (by rw [← hwb]; exact RowD.put HZ.out (spX y a) A2 c2 B2 d2 C2 e2)
                have HSN := Lib.hid (show RdS wb (fun g => g = k5 ∨ g = k6) A2 B2 C2 (spX y a) by rw [← hwb]; exact (((safe14 SB0.out (Same3.spX y a) hbx hge)).row (.inr rfl) _).weak (fun g hg => .inl hg))
                have HBN := Lib.hid (show Below wq.heap.size wq wb by rw [← hwb]; exact belowRow hbx hge _)
                clear hwb
                try simp only [Act.put]
                refine take1 (i := 12) (d := some 16) (v := ?_) rfl rfl (by kernel_rfl) (by kernel_rfl) (by kernel_rfl) (fun _ _ _ h => h) (Or.inl ⟨by rfl, ?_⟩) ?_
                rotate_left
                · intro w; first | (go_simp; done) | (go_simp; with_reducible rfl)
                simp only [Act.put, List.setIfInBounds_toArray, List.set_cons_zero, List.set_cons_succ]
                refine take1 (i := 13) (d := some 17) (v := ?_) rfl rfl (by kernel_rfl) (by kernel_rfl) (by kernel_rfl) (fun _ _ _ h => h) (Or.inl ⟨by rfl, ?_⟩) ?_
                rotate_left
                · intro w; first | (go_simp; done) | (go_simp; with_reducible rfl)
                simp only [Act.put, List.setIfInBounds_toArray, List.set_cons_zero, List.set_cons_succ]
                refine wpAny_done (by kernel_rfl) ?_ _
                go_wp2_with fail
                go_meet
                exact ⟨kn, A2, c2, B2, d2, C2, e2, rfl, rfl, rfl, HN.out, HSN.out, HBN.out, hge⟩
              · skip
                try go_simp
                refine hK _ _ ?_
                clear hK K
                try simp only [Act.put, List.setIfInBounds_toArray, List.set_cons_zero, List.set_cons_succ]
                refine wpAny_ready (rs := [0]) (by kernel_rfl) (by simp) ?_
                refine AllReady.cons rfl (fun K hK => ?_) AllReady.nil
                rw [if_pos (by rfl)]
                refine wp_load_row 32 _ rfl k6 rfl 32 _ (0, 0) _ RX.out Try.underlying32 rfl (by kernel_rfl) ?_
                refine hK _ _ ?_
                clear hK K
                change wpAny _ _ _ _ _ _ (Act.put _ (some 74) _) _
                try simp only [Act.put, List.setIfInBounds_toArray, List.set_cons_zero, List.set_cons_succ]
                refine wpAny_ready (rs := [5]) (by kernel_rfl) (by simp) ?_
                refine AllReady.cons rfl (fun K hK => ?_) AllReady.nil
                rw [if_pos (by rfl)]
                try go_simp
                refine (Step_s y a A2 B2 C2 c2 d2 e2 wa ((SB0.out.keep hbx).rd) HSd.out.1 HSd.out.2).mono ?_
                rintro r w4 ⟨rfl, hb⟩
                refine hK _ _ ?_
                clear hK K
                replace RX := Lib.hid (RX.out.keep RX.out.lt hb)
                replace hca := keep_cell hb hca
                replace HZ := Lib.hid (HZ.out.keep HZ.out.lt hb)
                replace hbx := below_seq hbx hb
                clear hb
                rename World => wa
                try simp only [Act.put, List.setIfInBounds_toArray, List.set_cons_zero, List.set_cons_succ]
                refine take1 (i := 6) (d := some 73) (v := ?_) rfl rfl (by kernel_rfl) (by kernel_rfl) (by kernel_rfl) (fun _ _ _ h => h) (Or.inl ⟨by rfl, ?_⟩) ?_
                rotate_left
                · intro w; first | (go_simp; done) | (go_simp; with_reducible rfl)
                simp only [Act.put, List.setIfInBounds_toArray, List.set_cons_zero, List.set_cons_succ]
                refine take1 (i := 7) (d := some 80) (v := ?_) rfl rfl (by kernel_rfl) (by kernel_rfl) (by kernel_rfl) (fun _ _ _ h => h) (Or.inl ⟨by rfl, ?_⟩) ?_
                rotate_left
                · intro w; first | (go_simp; done) | (go_simp; with_reducible rfl)
                simp only [Act.put, List.setIfInBounds_toArray, List.set_cons_zero, List.set_cons_succ]
                refine take1 (i := 8) (d := some 81) (v := ?_) rfl rfl (by kernel_rfl) (by kernel_rfl) (by kernel_rfl) (fun _ _ _ h => h) (Or.inl ⟨by rfl, ?_⟩) ?_
                rotate_left
                · intro w; first | (go_simp; done) | (go_simp; with_reducible rfl)
                simp only [Act.put, List.setIfInBounds_toArray, List.set_cons_zero, List.set_cons_succ]
                refine take1 (i := 9) (d := some 82) (v := ?_) rfl rfl (by kernel_rfl) (by kernel_rfl) (by kernel_rfl) (fun _ _ _ h => h) (Or.inl ⟨by rfl, ?_⟩) ?_
                rotate_left
                · intro w; first | (go_simp; done) | (go_simp; with_reducible rfl)
                simp only [Act.put, List.setIfInBounds_toArray, List.set_cons_zero, List.set_cons_succ]
                refine wpAny_ready (rs := [11]) (by kernel_rfl) (by simp) ?_
                refine AllReady.cons rfl (fun K hK => ?_) AllReady.nil
                rw [if_pos (by rfl)]
                refine wp_store_row 32 _ _ rfl kn _ rfl rfl 32 _ HZ.out (by kernel_rfl) rfl (dc_one (spX y a) _ _ _ _ _ _) ?_
                refine hK _ _ ?_
                clear hK K
                change wpAny _ _ _ _ _ _ (Act.put _ none _) _
                generalize hwb : World.setRow _ _ _ = wb
                have HN : Hid (RowD wb kn 32 (spX y a) A2 c2 B2 d2 C2 e2) := Lib.hid (by rw [← hwb]; exact RowD.put HZ.out (spX y a) A2 c2 B2 d2 C2 e2)
                have HSN := Lib.hid (show RdS wb (fun g => g = k5 ∨ g = k6) A2 B2 C2 (spX y a) by rw [← hwb]; exact (((safe14 SB0.out (Same3.spX y a) hbx hge)).row (.inr rfl) _).weak (fun g hg => .inl hg))
                have HBN := Lib.hid (show Below wq.heap.size wq wb by rw [← hwb]; exact belowRow hbx hge _)
                clear hwb
                try simp only [Act.put]
                refine take1 (i := 12) (d := some 16) (v := ?_) rfl rfl (by kernel_rfl) (by kernel_rfl) (by kernel_rfl) (fun _ _ _ h => h) (Or.inl ⟨by rfl, ?_⟩) ?_
                rotate_left
                · intro w; first | (go_simp; done) | (go_simp; with_reducible rfl)
                simp only [Act.put, List.setIfInBounds_toArray, List.set_cons_zero, List.set_cons_succ]
                refine take1 (i := 13) (d := some 17) (v := ?_) rfl rfl (by kernel_rfl) (by kernel_rfl) (by kernel_rfl) (fun _ _ _ h => h) (Or.inl ⟨by rfl, ?_⟩) ?_
                rotate_left
                · intro w; first | (go_simp; done) | (go_simp; with_reducible rfl)
                simp only [Act.put, List.setIfInBounds_toArray, List.set_cons_zero, List.set_cons_succ]
                refine wpAny_done (by kernel_rfl) ?_ _
                go_wp2_with fail
                go_meet
                exact ⟨kn, A2, c2, B2, d2, C2, e2, rfl, rfl, rfl, HN.out, HSN.out, HBN.out, hge⟩
        case rest =>
          clear RB0 SB0
          obtain ⟨k15, A4, c4, B4, d4, C4, e4, rfl, rfl, rfl, hRB, hSB, hby, hny⟩ := hcut
          have RB := Lib.hid hRB
          have SB := Lib.hid hSB
          have hk65 : k15 ≠ k5 := by have := HPT.out k5 (.inl rfl); omega
          replace RA := Lib.hid (RA.out.keep RA.out.lt hby)
          replace SA := Lib.hid (SA.out.keep hby)
          have hbx := below_seq HBX.out hby
          clear hRB hSB hby HBX
          go_wp2_with (first | (refine wpList_load_row rfl 32 _ rfl k12 rfl 32 _ (0, 0) _ RA.out Try.underlying32 rfl (by kernel_rfl) ?_) | (refine wpList_load_row rfl 32 _ rfl k15 rfl 32 _ (0, 0) _ RB.out Try.underlying32 rfl (by kernel_rfl) ?_))
          refine (dev_yes (spX y a) A3 B3 C3 A4 B4 C4 c3 d3 e3 c4 d4 e4 _ SA.out.rd SB.out.rd).mono ?_
          rintro r w4 ⟨rfl, hb⟩
          replace RA := Lib.hid (RA.out.keep RA.out.lt hb)
          replace RB := Lib.hid (RB.out.keep RB.out.lt hb)
          replace SA := Lib.hid (SA.out.keep hb)
          replace SB := Lib.hid (SB.out.keep hb)
          replace hbx := below_seq hbx hb
          clear hb
          have q1 : (spO y a != spO y a) = false := by simp
          have q2 : (spE y a != spE y a) = false := by simp
          go_upto_region 17 with fail
          refine wp_region_any (by kernel_rfl) ?_
          change wpAny _ _ _ _ _ _ _ (World.drew _)
          generalize hwa : World.drew _ = wa
          have hb : Below w4.heap.size w4 wa := by rw [← hwa]; exact (Below.refl _ _).drew
          replace RA := Lib.hid (RA.out.keep RA.out.lt hb)
          replace RB := Lib.hid (RB.out.keep RB.out.lt hb)
          replace SA := Lib.hid (SA.out.keep hb)
          replace SB := Lib.hid (SB.out.keep hb)
          replace hbx := below_seq hbx hb
          have hra := (HQ.out.ra.keep HQ.out.ra.lt hbx)
          have hrb := (HQ.out.rb.keep HQ.out.rb.lt hbx)
          have hbl := below_seq HQ.out.bel hbx
          have HG := Lib.hid (And.intro hra (And.intro hrb hbl))
          clear hra hrb hbl hwa hb
          refine wpAny_ready (rs := [0, 1]) (by kernel_rfl) (by simp) ?_
          refine AllReady.cons rfl (fun K hK => ?_) (AllReady.cons rfl (fun K hK => ?_) AllReady.nil)
          · skip
            rw [if_pos (by rfl)]
            refine wp_load_row 32 _ rfl k12 rfl 32 _ (0, 0) _ RA.out Try.underlying32 rfl (by kernel_rfl) ?_
            refine hK _ _ ?_
            clear hK K
            change wpAny _ _ _ _ _ _ (Act.put _ (some 97) _) _
            try simp only [Act.put, List.setIfInBounds_toArray, List.set_cons_zero, List.set_cons_succ]
            refine wpAny_ready (rs := [1, 2]) (by kernel_rfl) (by simp) ?_
            refine AllReady.cons rfl (fun K hK => ?_) (AllReady.cons rfl (fun K hK => ?_) AllReady.nil)
            · skip
              rw [if_pos (by rfl)]
              refine wp_load_row 32 _ rfl k15 rfl 32 _ (0, 0) _ RB.out Try.underlying32 rfl (by kernel_rfl) ?_
              refine hK _ _ ?_
              clear hK K
              change wpAny _ _ _ _ _ _ (Act.put _ (some 98) _) _
              try simp only [Act.put, List.setIfInBounds_toArray, List.set_cons_zero, List.set_cons_succ]
              refine wpAny_ready (rs := [2]) (by kernel_rfl) (by simp) ?_
              refine AllReady.cons rfl (fun K hK => ?_) AllReady.nil
              rw [if_pos (by rfl)]
              refine wp_store_row 32 _ _ rfl k5 _ rfl rfl 32 _ HG.out.1 (by kernel_rfl) rfl (dc_one _ _ _ _ _ _ _) ?_
              refine hK _ _ ?_
              clear hK K
              change wpAny _ _ _ _ _ _ (Act.put _ none _) _
              generalize hwb : World.setRow _ _ _ = wb
              have HNA : Hid (RowD wb k5 32 (spX y a) A3 c3 B3 d3 C3 e3) := Lib.hid (by rw [← hwb]; exact RowD.put HG.out.1 (spX y a) A3 c3 B3 d3 C3 e3)
              have HOB := Lib.hid (show RowD wb k6 32 y A2 c2 B2 d2 C2 e2 by rw [← hwb]; exact (setRow_other _ _ _ _ (Ne.symm hne)).trans HG.out.2.1)
              have HBL := Lib.hid (show Below w.heap.size w wb by rw [← hwb]; exact belowRow HG.out.2.2 hge5 _)
              have HSA := Lib.hid (show RdS wb (fun g => g = k5 ∨ g = k6) A3 B3 C3 (spX y a) by rw [← hwb]; exact SA.out.row (.inl rfl) _)
              have HSB := Lib.hid (show RdS wb (fun g => g = k5 ∨ g = k6) A4 B4 C4 (spX y a) by rw [← hwb]; exact SB.out.row (.inl rfl) _)
              
              clear hwb
              try simp only [Act.put]
              refine wpAny_ready (rs := [3]) (by kernel_rfl) (by simp) ?_
              refine AllReady.cons rfl (fun K hK => ?_) AllReady.nil
              rw [if_pos (by rfl)]
              refine wp_store_row 32 _ _ rfl k6 _ rfl rfl 32 _ HOB.out (by kernel_rfl) rfl (dc_one _ _ _ _ _ _ _) ?_
              refine hK _ _ ?_
              clear hK K
              change wpAny _ _ _ _ _ _ (Act.put _ none _) _
              generalize hwc : World.setRow _ _ _ = wz
              have HNB : Hid (RowD wz k6 32 (spX y a) A4 c4 B4 d4 C4 e4) := Lib.hid (by rw [← hwc]; exact RowD.put HOB.out (spX y a) A4 c4 B4 d4 C4 e4)
              have HNA2 := Lib.hid (show RowD wz k5 32 (spX y a) A3 c3 B3 d3 C3 e3 by rw [← hwc]; exact (setRow_other _ _ _ _ hne).trans HNA.out)
              have HBL2 := Lib.hid (show Below w.heap.size w wz by rw [← hwc]; exact belowRow HBL.out hge6 _)
              have HSA2 := Lib.hid (show RdS wz (fun g => g = k5 ∨ g = k6) A3 B3 C3 (spX y a) by rw [← hwc]; exact HSA.out.row (.inr rfl) _)
              have HSB2 := Lib.hid (show RdS wz (fun g => g = k5 ∨ g = k6) A4 B4 C4 (spX y a) by rw [← hwc]; exact HSB.out.row (.inr rfl) _)
              clear hwc
              try simp only [Act.put]
              refine wpAny_done (by kernel_rfl) ?_ _
              go_wp2_with fail
              go_roundw
              case rel =>
                exact ⟨j + 1, spX y a, A3, c3, B3, d3, C3, e3, A4, c4, B4, d4, C4, e4, by go_num, by omega, Lib.hid ⟨HNA2.out, HNB.out, HSA2.out, HSB2.out, (spX_seed a HQ.out.s0 HQ.out.s1).1, (spX_seed a HQ.out.s0 HQ.out.s1).2, HBL2.out⟩⟩
              case measure => first | (simp [intOf]; done) | (simp [intOf]; omega)
            · skip
              rw [if_pos (by rfl)]
              refine wp_store_row 32 _ _ rfl k5 _ rfl rfl 32 _ HG.out.1 (by kernel_rfl) rfl (dc_one _ _ _ _ _ _ _) ?_
              refine hK _ _ ?_
              clear hK K
              change wpAny _ _ _ _ _ _ (Act.put _ none _) _
              generalize hwb : World.setRow _ _ _ = wb
              have HNA : Hid (RowD wb k5 32 (spX y a) A3 c3 B3 d3 C3 e3) := Lib.hid (by rw [← hwb]; exact RowD.put HG.out.1 (spX y a) A3 c3 B3 d3 C3 e3)
              have HOB := Lib.hid (show RowD wb k6 32 y A2 c2 B2 d2 C2 e2 by rw [← hwb]; exact (setRow_other _ _ _ _ (Ne.symm hne)).trans HG.out.2.1)
              have HBL := Lib.hid (show Below w.heap.size w wb by rw [← hwb]; exact belowRow HG.out.2.2 hge5 _)
              have HSA := Lib.hid (show RdS wb (fun g => g = k5 ∨ g = k6) A3 B3 C3 (spX y a) by rw [← hwb]; exact SA.out.row (.inl rfl) _)
              have HSB := Lib.hid (show RdS wb (fun g => g = k5 ∨ g = k6) A4 B4 C4 (spX y a) by rw [← hwb]; exact SB.out.row (.inl rfl) _)
              replace RB := Lib.hid (show RowD wb k15 32 (spX y a) A4 c4 B4 d4 C4 e4 by rw [← hwb]; exact (setRow_other _ _ _ _ hk65).trans RB.out)
              clear hwb
              try simp only [Act.put]
              refine wpAny_ready (rs := [1]) (by kernel_rfl) (by simp) ?_
              refine AllReady.cons rfl (fun K hK => ?_) AllReady.nil
              rw [if_pos (by rfl)]
              refine wp_load_row 32 _ rfl k15 rfl 32 _ (0, 0) _ RB.out Try.underlying32 rfl (by kernel_rfl) ?_
              refine hK _ _ ?_
              clear hK K
              change wpAny _ _ _ _ _ _ (Act.put _ (some 98) _) _
              try simp only [Act.put, List.setIfInBounds_toArray, List.set_cons_zero, List.set_cons_succ]
              refine wpAny_ready (rs := [3]) (by kernel_rfl) (by simp) ?_
              refine AllReady.cons rfl (fun K hK => ?_) AllReady.nil
              rw [if_pos (by rfl)]
              refine wp_store_row 32 _ _ rfl k6 _ rfl rfl 32 _ HOB.out (by kernel_rfl) rfl (dc_one _ _ _ _ _ _ _) ?_
              refine hK _ _ ?_
              clear hK K
              change wpAny _ _ _ _ _ _ (Act.put _ none _) _
              generalize hwc : World.setRow _ _ _ = wz
              have HNB : Hid (RowD wz k6 32 (spX y a) A4 c4 B4 d4 C4 e4) := Lib.hid (by rw [← hwc]; exact RowD.put HOB.out (spX y a) A4 c4 B4 d4 C4 e4)
              have HNA2 := Lib.hid (show RowD wz k5 32 (spX y a) A3 c3 B3 d3 C3 e3 by rw [← hwc]; exact (setRow_other _ _ _ _ hne).trans HNA.out)
              have HBL2 := Lib.hid (show Below w.heap.size w wz by rw [← hwc]; exact belowRow HBL.out hge6 _)
              have HSA2 := Lib.hid (show RdS wz (fun g => g = k5 ∨ g = k6) A3 B3 C3 (spX y a) by rw [← hwc]; exact HSA.out.row (.inr rfl) _)
              have HSB2 := Lib.hid (show RdS wz (fun g => g = k5 ∨ g = k6) A4 B4 C4 (spX y a) by rw [← hwc]; exact HSB.out.row (.inr rfl) _)
              clear hwc
              try simp only [Act.put]
              refine wpAny_done (by kernel_rfl) ?_ _
              go_wp2_with fail
              go_roundw
              case rel =>
                exact ⟨j + 1, spX y a, A3, c3, B3, d3, C3, e3, A4, c4, B4, d4, C4, e4, by go_num, by omega, Lib.hid ⟨HNA2.out, HNB.out, HSA2.out, HSB2.out, (spX_seed a HQ.out.s0 HQ.out.s1).1, (spX_seed a HQ.out.s0 HQ.out.s1).2, HBL2.out⟩⟩
              case measure => first | (simp [intOf]; done) | (simp [intOf]; omega)
          · skip
            rw [if_pos (by rfl)]
            refine wp_load_row 32 _ rfl k15 rfl 32 _ (0, 0) _ RB.out Try.underlying32 rfl (by kernel_rfl) ?_
            refine hK _ _ ?_
            clear hK K
            change wpAny _ _ _ _ _ _ (Act.put _ (some 98) _) _
            try simp only [Act.put, List.setIfInBounds_toArray, List.set_cons_zero, List.set_cons_succ]
            refine wpAny_ready (rs := [0]) (by kernel_rfl) (by simp) ?_
            refine AllReady.cons rfl (fun K hK => ?_) AllReady.nil
            rw [if_pos (by rfl)]
            refine wp_load_row 32 _ rfl k12 rfl 32 _ (0, 0) _ RA.out Try.underlying32 rfl (by kernel_rfl) ?_
            refine hK _ _ ?_
            clear hK K
            change wpAny _ _ _ _ _ _ (Act.put _ (some 97) _) _
            try simp only [Act.put, List.setIfInBounds_toArray, List.set_cons_zero, List.set_cons_succ]
            refine wpAny_ready (rs := [2]) (by kernel_rfl) (by simp) ?_
            refine AllReady.cons rfl (fun K hK => ?_) AllReady.nil
            rw [if_pos (by rfl)]
            refine wp_store_row 32 _ _ rfl k5 _ rfl rfl 32 _ HG.out.1 (by kernel_rfl) rfl (dc_one _ _ _ _ _ _ _) ?_
            refine hK _ _ ?_
            clear hK K
            change wpAny _ _ _ _ _ _ (Act.put _ none _) _
            generalize hwb : World.setRow _ _ _ = wb
            have HNA : Hid (RowD wb k5 32 (spX y a) A3 c3 B3 d3 C3 e3) := Lib.hid (by rw [← hwb]; exact RowD.put HG.out.1 (spX y a) A3 c3 B3 d3 C3 e3)
            have HOB := Lib.hid (show RowD wb k6 32 y A2 c2 B2 d2 C2 e2 by rw [← hwb]; exact (setRow_other _ _ _ _ (Ne.symm hne)).trans HG.out.2.1)
            have HBL := Lib.hid (show Below w.heap.size w wb by rw [← hwb]; exact belowRow HG.out.2.2 hge5 _)
            have HSA := Lib.hid (show RdS wb (fun g => g = k5 ∨ g = k6) A3 B3 C3 (spX y a) by rw [← hwb]; exact SA.out.row (.inl rfl) _)
            have HSB := Lib.hid (show RdS wb (fun g => g = k5 ∨ g = k6) A4 B4 C4 (spX y a) by rw [← hwb]; exact SB.out.row (.inl rfl) _)
            
            clear hwb
            try simp only [Act.put]
            refine wpAny_ready (rs := [3]) (by kernel_rfl) (by simp) ?_
            refine AllReady.cons rfl (fun K hK => ?_) AllReady.nil
            rw [if_pos (by rfl)]
            refine wp_store_row 32 _ _ rfl k6 _ rfl rfl 32 _ HOB.out (by kernel_rfl) rfl (dc_one _ _ _ _ _ _ _) ?_
            refine hK _ _ ?_
            clear hK K
            change wpAny _ _ _ _ _ _ (Act.put _ none _) _
            generalize hwc : World.setRow _ _ _ = wz
            have HNB : Hid (RowD wz k6 32 (spX y a) A4 c4 B4 d4 C4 e4) := Lib.hid (by rw [← hwc]; exact RowD.put HOB.out (spX y a) A4 c4 B4 d4 C4 e4)
            have HNA2 := Lib.hid (show RowD wz k5 32 (spX y a) A3 c3 B3 d3 C3 e3 by rw [← hwc]; exact (setRow_other _ _ _ _ hne).trans HNA.out)
            have HBL2 := Lib.hid (show Below w.heap.size w wz by rw [← hwc]; exact belowRow HBL.out hge6 _)
            have HSA2 := Lib.hid (show RdS wz (fun g => g = k5 ∨ g = k6) A3 B3 C3 (spX y a) by rw [← hwc]; exact HSA.out.row (.inr rfl) _)
            have HSB2 := Lib.hid (show RdS wz (fun g => g = k5 ∨ g = k6) A4 B4 C4 (spX y a) by rw [← hwc]; exact HSB.out.row (.inr rfl) _)
            clear hwc
            try simp only [Act.put]
            refine wpAny_done (by kernel_rfl) ?_ _
            go_wp2_with fail
            go_roundw
            case rel =>
              exact ⟨j + 1, spX y a, A3, c3, B3, d3, C3, e3, A4, c4, B4, d4, C4, e4, by go_num, by omega, Lib.hid ⟨HNA2.out, HNB.out, HSA2.out, HSB2.out, (spX_seed a HQ.out.s0 HQ.out.s1).1, (spX_seed a HQ.out.s0 HQ.out.s1).2, HBL2.out⟩⟩
            case measure => first | (simp [intOf]; done) | (simp [intOf]; omega)
theorem deviceSteps_walk (w : World) (a0 a1 : Int) (A2 : Option Addr) (c2 : Nat) (x2 : List (List Int)) (A3 : Option Addr) (c3 : Nat) (x3 : List (List Int)) (a4 : Int) (a5 : Bool) (A6 : Option Addr) (c6 : Nat) (x6 : List Int) (a7 a8 a9 a10 a11 a12 a13 a14 : Int) (A15 : Option Addr) (c15 : Nat) (x15 : List Int)
    (_ : (Lit.int .i64 a0).wf = true) (_ : (Lit.int .i64 a1).wf = true) (r2 : RdM .i64 w A2 x2) (_ : WfM .i64 x2) (r3 : RdM .i64 w A3 x3) (_ : WfM .i64 x3) (_ : (Lit.int .i64 a4).wf = true) (r6 : RdK .i64 w A6 x6) (_ : Wf .i64 x6) (_ : (Lit.int .i64 a7).wf = true) (_ : (Lit.int .i64 a8).wf = true) (_ : (Lit.int .i64 a9).wf = true) (_ : (Lit.int .i64 a10).wf = true) (hs : (Lit.int .u64 a11).wf = true) (_ : (Lit.int .i64 a12).wf = true) (_ : (Lit.int .i64 a13).wf = true) (_ : (Lit.int .i64 a14).wf = true) (r15 : RdK .i64 w A15 x15) (_ : Wf .i64 x15) :
    Calls Try.prog 3 #[.agg #[.int .i64 a0, .int .i64 a1, .slice A2 x2.length c2, .slice A3 x3.length c3, .int .i64 a4, .bool a5, .slice A6 x6.length c6, .int .i64 a7, .int .i64 a8, .int .i64 a9, .int .i64 a10, .int .u64 a11, .int .i64 a12, .int .i64 a13, .int .i64 a14], .slice A15 x15.length c15] w fun r w' => r = .returned (.bool true) ∧ Below w.heap.size w w' :=
  steps_w ⟨a0, a1, x2, x3, a4, a5, x6, a7, a8, a9, a10, a11, a12, a13, a14⟩ x15 A2 A3 A6 A15 c2 c3 c6 c15 w ⟨r2, r3, r6⟩ r15 (u64_bd hs).1 (u64_bd hs).2
end Go.Proofs.Ytpoppadihbgbgaa
