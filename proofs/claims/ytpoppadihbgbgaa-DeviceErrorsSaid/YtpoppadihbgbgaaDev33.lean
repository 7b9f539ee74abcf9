/- DeviceErrors: the walk of the law. -/
import Derived.Test.YtpoppadihbgbgaaDev27
import Derived.Test.YtpoppadihbgbgaaDev31
import Derived.Test.YtpoppadihbgbgaaDev32
import Derived.Test.YtpoppadihbgbgaaDev34
namespace Go.Proofs.Ytpoppadihbgbgaa
open Go.RowKit
theorem BoxF.kept {w w' : World} {k : Nat} {x : Dv} (h : BoxF w k x) (hb : Below w.heap.size w w') : BoxF w' k x := ⟨keep_cell hb h.c0, keep_cell hb h.c1, keep_cell hb h.c2⟩
/-- what stands behind the first statement -/
def RE (w : World) (x : Dv) (A : Option Addr) (c : Nat) (B : Option Addr) (d : Nat) (C : Option Addr) (e : Nat) (u1 u2 p q t s v : Value) (wx : World) : Prop :=
  ∃ kM kL kF, p = .pointer (some ⟨kM, 0, none⟩) ∧ q = .pointer (some ⟨kL, 0, none⟩) ∧ t = .pointer (some ⟨kF, 0, none⟩) ∧ s = u1 ∧ v = u2 ∧ BM wx kM x A c B d ∧ BL wx kL x C e ∧ BoxF wx kF x ∧ Below w.heap.size w wx
theorem start_safe {w w4 : World} {A B C A' B' C' : Option Addr} {x y : Dv} {o : Obj} (h : RdD w A B C x) (hs : Same3 x y) (hb : Below w.heap.size w w4) (hd : (A' = A ∧ B' = B ∧ C' = C) ∨ RdU w4 w.heap.size A' B' C' y) : RdS (w4.alloc o) (fun g => g = w4.heap.size) A' B' C' y := by
  rcases hd with ⟨rfl, rfl, rfl⟩ | hd
  · exact (h.safe (hb.alloc hb.size o) (fun g hg => by rw [hg]; exact hb.size)).same hs
  · exact ((hd.safe (P := fun _ => False) (fun _ h => h.elim)).fresh o).weak (fun g hg => .inr hg)
/-- the blocks that the loop writes: the device's box, the list's own row -/
def PW (k : Nat) (G : Option Addr) (n g : Nat) : Nat → Prop := fun b => b = k ∨ some b = (Value.slice G n g).ownBlock
theorem PW_none {k n g b : Nat} (h : PW k none n g b) : b = k := by
  rcases h with h | h
  · exact h
  · simp [Value.ownBlock] at h
theorem RdS.app {w w' : World} {P P' : Nat → Prop} {row : Option Nat} {A B C : Option Addr} {x : Dv} {o : Obj} (h : RdS w P A B C x) (hg : (w.alloc o).grownBy w' row) (hrow : ∀ g, some g = row → P g) (hP : ∀ g, P' g → P g ∨ w.heap.size ≤ g) : RdS w' P' A B C x :=
  fun wz hk => h wz fun g h1 h2 => by
    have h3 : g < (w.alloc o).heap.size := Nat.lt_trans h2 (size_new w o)
    have h4 : ¬ P' g := fun hh => (hP g hh).elim h1 (fun h5 => Nat.lt_irrefl _ (Nat.lt_of_lt_of_le h2 h5))
    exact (hk g h4 (Nat.lt_of_lt_of_le h3 hg.size)).trans ((hg.block g h3 (fun he => h1 (hrow g he))).trans (heap_alloc_old w o h2))
/-- what holds in the loop: W is the world ahead of the loop's device -/
structure EI (W wr : World) (k : Nat) (R : Dv × List Int × Int) (x y : Dv) (ws acc : List Int) (A : Option Addr) (c : Nat) (B : Option Addr) (d : Nat) (C : Option Addr) (e : Nat) (G : Option Addr) (g : Nat) : Prop where
  row : RowD wr k 32 y A c B d C e
  safe : RdS wr (PW k G acc.length g) A B C y
  own : wr.ownsRow (k + 1) 3 1 (.slice G acc.length g) acc.length (acc.map (.int .i64))
  bel : Below W.heap.size W wr
  inv : EInv R x y ws acc
section
variable {P : Program} {ops : Array Oper} {rest : List Oper} {o : Oper} {a : Act} {Q : Exit → Act → World → Prop}
theorem app1h (hgd : o.guard = none) (s x : Operand) (t e : TypeId) (z : Value) (bytes : Nat) (ho : o.op = .call { callee := .builtin .append, args := #[s, x], argTypes := #[t, t] })
    (ht : P.underlying t = some (.slice e)) (hinfo : (P.info? e).map (fun i => (i.zero, i.size, i.bytes)) = some (some z, 1, bytes)) (hz1 : z.cells.size = 1) (hby : bytes ≤ 64)
    {W : World} {base : Nat} {v : Value} {n : Nat} {ys : List Value} {y : Value} (hs : a.eval s = v) (hx : a.eval x = .slice (some ⟨W.heap.size, 0, none⟩) 1 1) (hown : W.ownsRow base e 1 v n ys) (hy : y.oneCell' = true)
    (hn : n ≤ 1099511627776) (hbase : base ≤ W.heap.size)
    (h : ∀ v' w', w'.ownsRow base e 1 v' (n + 1) (ys ++ [y]) → (W.alloc (.cells #[y] e)).grownBy w' v.ownBlock → (v'.ownBlock = v.ownBlock ∨ v'.ownBlock = some (W.heap.size + 1)) → wpList P ops Q rest (a.put o.dst v') w') :
    wpList P ops Q (o :: rest) a (W.alloc (.cells #[y] e)) := by
  obtain ⟨i0, hi, hz0, hz1', hz2⟩ := info_parts hinfo
  refine wpList_append_own_at _ hgd s x t ho base e i0 z 1 bytes ht hi hz0 hz1' hz2 hz1 (by decide) v n ys hs (hown.alloc _) ⟨W.heap.size, 0, none⟩ 1 1 [y] hx rfl (cell_one_new _ _ _) (by simpa using hy) (by unfold maxLen; omega) ?_ (by simp; omega) ?_
  · have : (n + 1) * bytes ≤ (n + 1) * 64 := Nat.mul_le_mul_left _ hby
    omega
  · intro v' w' h1 h2 _ h4
    exact h v' w' h1 h2 (by rw [size_alloc] at h4; exact h4)
end
/-- the round's end -/
theorem EI.next {W wr v3 w5 : World} {k k' : Nat} {R : Dv × List Int × Int} {x y : Dv} {ws acc : List Int} {A B C A5 B5 C5 G G5 : Option Addr} {c d e c5 d5 e5 g g5 : Nat} {z : Dv} {o : Int}
    (h : EI W wr k R x y ws acc A c B d C e G g) (hge : W.heap.size ≤ k) (hq : Below wr.heap.size wr v3) (hrn : RowD v3 k' 32 z A5 c5 B5 d5 C5 e5) (hsn : RdS v3 (PW k G acc.length g) A5 B5 C5 z)
    (hown : w5.ownsRow (k + 1) 3 1 (.slice G5 (acc.length + 1) g5) (acc.length + 1) (acc.map (.int .i64) ++ [.int .i64 o])) (hg : (v3.alloc (.cells #[.int .i64 o] 3)).grownBy w5 (Value.slice G acc.length g).ownBlock)
    (hl : (Value.slice G5 (acc.length + 1) g5).ownBlock = (Value.slice G acc.length g).ownBlock ∨ (Value.slice G5 (acc.length + 1) g5).ownBlock = some (v3.heap.size + 1)) (hi : EInv R x z ws (acc ++ [o])) :
    RowD w5 k' 32 z A5 c5 B5 d5 C5 e5 ∧ RowD w5 k 32 y A c B d C e ∧ ∀ cs, cs = (#[Value.int IntKind.i64 (Dv.I z), Value.int IntKind.i64 (Dv.S z), Value.slice A5 (Dv.nx z).length c5, Value.slice B5 (Dv.out z).length d5, Value.int IntKind.i64 (Dv.st z), Value.bool (Dv.rdy z), Value.slice C5 (Dv.step z).length e5, Value.int IntKind.i64 (Dv.rs z), Value.int IntKind.i64 (Dv.lost z), Value.int IntKind.i64 (Dv.wrong z), Value.int IntKind.i64 (Dv.crash z), Value.int IntKind.u64 (Dv.seed z), Value.int IntKind.i64 (Dv.steps z), Value.int IntKind.i64 (Dv.resets z), Value.int IntKind.i64 (Dv.time z)]) → EI W (w5.setRow k cs) k R x z ws (acc ++ [o]) A5 c5 B5 d5 C5 e5 G5 g5 := by
  have hown3 : v3.ownsRow (k + 1) 3 1 (.slice G acc.length g) acc.length (acc.map (.int .i64)) := ownsRow_up h.own (fun g h1 h2 => hq.block g h2)
  have hr3 : RowD v3 k 32 y A c B d C e := h.row.keep h.row.lt hq
  have al : Below v3.heap.size v3 (v3.alloc (.cells #[.int .i64 o] 3)) := (Below.refl _ _).alloc (Nat.le_refl _) _
  have hr5 : RowD w5 k 32 y A c B d C e := (hr3.keep hr3.lt al).grown hg (own_row_ne hown3 hr3)
  refine ⟨(hrn.keep hrn.lt al).grown hg (own_row_ne hown3 hrn), hr5, ?_⟩
  rintro cs rfl
  have hs5 : RdS w5 (PW k G5 (acc.length + 1) g5) A5 B5 C5 z := hsn.app hg (fun g hh => .inr hh) (fun b hb => by
    rcases hb with hb | hb
    · exact .inl (.inl hb)
    · rcases hl with hl | hl
      · exact .inl (.inr (hb.trans hl))
      · right; have := hb.trans hl; simp at this; omega)
  have hlen : (acc ++ [o]).length = acc.length + 1 := by simp
  refine ⟨RowD.put hr5 _ _ _ _ _ _ _, ?_, ?_, ?_, hi⟩
  · rw [hlen]; exact hs5.row (.inl rfl) _
  · rw [hlen, List.map_append]
    exact ownsRow_up hown (fun g h1 h2 => setRow_other _ _ _ _ (by omega))
  · refine belowRow ?_ hge _
    exact (below_seq h.bel (below_seq hq al)).grown hg (by have := h.bel.size; have := hq.size; have := al.size; omega) (fun b hb => by
      have := (hown3.lt b hb).1
      omega)
theorem kS {x y : Dv} (h : Kept (nextR (newX x)) y) : Same3 y x ∧ Same3 x y ∧ y.I = x.I ∧ y.S = x.S ∧ y.rs = x.rs := ⟨⟨h.nx.symm, h.out.symm, h.step.symm⟩, ⟨h.nx, h.out, h.step⟩, h.I, h.S, h.rs⟩
set_option maxRecDepth 100000 in
set_option maxHeartbeats 32000000 in
theorem errors_w (x : Dv) (ws : List Int) (A B C G : Option Addr) (c d e g : Nat) (w : World) (h : RdD w A B C x) (hw : Rd w G ws) (s0 : 0 ≤ x.seed) (s1 : x.seed < 18446744073709551616) :
    Calls Try.prog 4 #[.agg #[.int .i64 x.I, .int .i64 x.S, .slice A x.nx.length c, .slice B x.out.length d, .slice C x.step.length e, .int .i64 x.rs, .int .i64 x.lost, .int .i64 x.wrong, .int .i64 x.crash, .int .u64 x.seed, .slice G ws.length g]] w fun r w' => r = .returned (.bool true) ∧ Below w.heap.size w w' := by
  have mw := hw.1
  have HM := Lib.hid h
  have HW := Lib.hid hw
  have HS := Lib.hid (And.intro s0 s1)
  clear h hw s0 s1
  go_enter Try.func4, Try.ntmps4
  go_upto_region 1 with fail
  generalize hw0 : World.alloc _ _ = w0
  have k0 : w0.cell? ⟨w.heap.size, 0, none⟩ = some (.int .i64 x.I) := by rw [← hw0]; clear hw0; go_simp
  have k1 : w0.cell? ⟨w.heap.size, 1, none⟩ = some (.int .i64 x.S) := by rw [← hw0]; clear hw0; go_simp
  have k2 : w0.cell? ⟨w.heap.size, 2, none⟩ = some (.slice A x.nx.length c) := by rw [← hw0]; clear hw0; go_simp
  have k3 : w0.cell? ⟨w.heap.size, 3, none⟩ = some (.slice B x.out.length d) := by rw [← hw0]; clear hw0; go_simp
  have k4 : w0.cell? ⟨w.heap.size, 4, none⟩ = some (.slice C x.step.length e) := by rw [← hw0]; clear hw0; go_simp
  have k5 : w0.cell? ⟨w.heap.size, 5, none⟩ = some (.int .i64 x.rs) := by rw [← hw0]; clear hw0; go_simp
  have k6 : w0.cell? ⟨w.heap.size, 6, none⟩ = some (.int .i64 x.lost) := by rw [← hw0]; clear hw0; go_simp
  have k7 : w0.cell? ⟨w.heap.size, 7, none⟩ = some (.int .i64 x.wrong) := by rw [← hw0]; clear hw0; go_simp
  have k8 : w0.cell? ⟨w.heap.size, 8, none⟩ = some (.int .i64 x.crash) := by rw [← hw0]; clear hw0; go_simp
  have k9 : w0.cell? ⟨w.heap.size, 9, none⟩ = some (.int .u64 x.seed) := by rw [← hw0]; clear hw0; go_simp
  have k10 : w0.cell? ⟨w.heap.size, 10, none⟩ = some (.slice G ws.length g) := by rw [← hw0]; clear hw0; go_simp
  have hbel : Below w.heap.size w w0 := by rw [← hw0]; exact (Below.refl _ _).alloc (Nat.le_refl _) _
  have HB0 := Lib.hid hbel
  clear hw0 hbel
  go_cut [3, 4, 5, 6, 7] (fun p q t s v wx => RE w x A c B d C e (.int .u64 x.seed) (.slice G ws.length g) p q t s v wx)
  case first =>
    refine wp_region_held_drew (S := fun wx => Below w0.heap.size w0 wx) (by kernel_rfl) ((Below.refl _ _).drew) (fun hS => ?_)
    as_aux_lemma =>
      refine takeH (i := 0) (d := some 26) (v := ?_) rfl rfl (by kernel_rfl) (by kernel_rfl) (by kernel_rfl) (fun _ _ _ h => h) (Or.inl ⟨by rfl, ?_⟩) hS ?_
      rotate_left
      · intro wx hSx; clear hSx; first | (go_simp; done) | (go_simp; with_reducible rfl)
      simp only [Act.put, List.setIfInBounds_toArray, List.set_cons_zero, List.set_cons_succ]
      refine takeH (i := 1) (d := some 27) (v := ?_) rfl rfl (by kernel_rfl) (by kernel_rfl) (by kernel_rfl) (fun _ _ _ h => h) (Or.inl ⟨by rfl, ?_⟩) hS ?_
      rotate_left
      · intro wx hSx; have hSy : Below w0.heap.size w0 wx := hSx; have e0 := keep_cell hSy k0; have e1 := keep_cell hSy k1; have e2 := keep_cell hSy k2; have e3 := keep_cell hSy k3; have e4 := keep_cell hSy k4; have e5 := keep_cell hSy k5; have e6 := keep_cell hSy k6; have e7 := keep_cell hSy k7; have e8 := keep_cell hSy k8; have e9 := keep_cell hSy k9; have e10 := keep_cell hSy k10; clear hSy hSx; first | (go_simp; done) | (go_simp; with_reducible rfl)
      simp only [Act.put, List.setIfInBounds_toArray, List.set_cons_zero, List.set_cons_succ]
      refine takeH (i := 2) (d := some 28) (v := ?_) rfl rfl (by kernel_rfl) (by kernel_rfl) (by kernel_rfl) (fun _ _ _ h => h) (Or.inl ⟨by rfl, ?_⟩) hS ?_
      rotate_left
      · intro wx hSx; clear hSx; first | (go_simp; done) | (go_simp; with_reducible rfl)
      simp only [Act.put, List.setIfInBounds_toArray, List.set_cons_zero, List.set_cons_succ]
      refine takeH (i := 3) (d := some 29) (v := ?_) rfl rfl (by kernel_rfl) (by kernel_rfl) (by kernel_rfl) (fun _ _ _ h => h) (Or.inl ⟨by rfl, ?_⟩) hS ?_
      rotate_left
      · intro wx hSx; have hSy : Below w0.heap.size w0 wx := hSx; have e0 := keep_cell hSy k0; have e1 := keep_cell hSy k1; have e2 := keep_cell hSy k2; have e3 := keep_cell hSy k3; have e4 := keep_cell hSy k4; have e5 := keep_cell hSy k5; have e6 := keep_cell hSy k6; have e7 := keep_cell hSy k7; have e8 := keep_cell hSy k8; have e9 := keep_cell hSy k9; have e10 := keep_cell hSy k10; clear hSy hSx; first | (go_simp; done) | (go_simp; with_reducible rfl)
      simp only [Act.put, List.setIfInBounds_toArray, List.set_cons_zero, List.set_cons_succ]
      refine takeH (i := 4) (d := some 30) (v := ?_) rfl rfl (by kernel_rfl) (by kernel_rfl) (by kernel_rfl) (fun _ _ _ h => h) (Or.inl ⟨by rfl, ?_⟩) hS ?_
      rotate_left
      · intro wx hSx; clear hSx; first | (go_simp; done) | (go_simp; with_reducible rfl)
      simp only [Act.put, List.setIfInBounds_toArray, List.set_cons_zero, List.set_cons_succ]
      refine takeH (i := 5) (d := some 31) (v := ?_) rfl rfl (by kernel_rfl) (by kernel_rfl) (by kernel_rfl) (fun _ _ _ h => h) (Or.inl ⟨by rfl, ?_⟩) hS ?_
      rotate_left
      · intro wx hSx; have hSy : Below w0.heap.size w0 wx := hSx; have e0 := keep_cell hSy k0; have e1 := keep_cell hSy k1; have e2 := keep_cell hSy k2; have e3 := keep_cell hSy k3; have e4 := keep_cell hSy k4; have e5 := keep_cell hSy k5; have e6 := keep_cell hSy k6; have e7 := keep_cell hSy k7; have e8 := keep_cell hSy k8; have e9 := keep_cell hSy k9; have e10 := keep_cell hSy k10; clear hSy hSx; first | (go_simp; done) | (go_simp; with_reducible rfl)
      simp only [Act.put, List.setIfInBounds_toArray, List.set_cons_zero, List.set_cons_succ]
      refine takeH (i := 6) (d := some 32) (v := ?_) rfl rfl (by kernel_rfl) (by kernel_rfl) (by kernel_rfl) (fun _ _ _ h => h) (Or.inl ⟨by rfl, ?_⟩) hS ?_
      rotate_left
      · intro wx hSx; clear hSx; first | (go_simp; done) | (go_simp; with_reducible rfl)
      simp only [Act.put, List.setIfInBounds_toArray, List.set_cons_zero, List.set_cons_succ]
      refine takeH (i := 7) (d := some 33) (v := ?_) rfl rfl (by kernel_rfl) (by kernel_rfl) (by kernel_rfl) (fun _ _ _ h => h) (Or.inl ⟨by rfl, ?_⟩) hS ?_
      rotate_left
      · intro wx hSx; have hSy : Below w0.heap.size w0 wx := hSx; have e0 := keep_cell hSy k0; have e1 := keep_cell hSy k1; have e2 := keep_cell hSy k2; have e3 := keep_cell hSy k3; have e4 := keep_cell hSy k4; have e5 := keep_cell hSy k5; have e6 := keep_cell hSy k6; have e7 := keep_cell hSy k7; have e8 := keep_cell hSy k8; have e9 := keep_cell hSy k9; have e10 := keep_cell hSy k10; clear hSy hSx; first | (go_simp; done) | (go_simp; with_reducible rfl)
      simp only [Act.put, List.setIfInBounds_toArray, List.set_cons_zero, List.set_cons_succ]
      refine takeH (i := 8) (d := some 34) (v := ?_) rfl rfl (by kernel_rfl) (by kernel_rfl) (by kernel_rfl) (fun _ _ _ h => h) (Or.inl ⟨by rfl, ?_⟩) hS ?_
      rotate_left
      · intro wx hSx; clear hSx; first | (go_simp; done) | (go_simp; with_reducible rfl)
      simp only [Act.put, List.setIfInBounds_toArray, List.set_cons_zero, List.set_cons_succ]
      refine takeH (i := 9) (d := some 35) (v := ?_) rfl rfl (by kernel_rfl) (by kernel_rfl) (by kernel_rfl) (fun _ _ _ h => h) (Or.inl ⟨by rfl, ?_⟩) hS ?_
      rotate_left
      · intro wx hSx; have hSy : Below w0.heap.size w0 wx := hSx; have e0 := keep_cell hSy k0; have e1 := keep_cell hSy k1; have e2 := keep_cell hSy k2; have e3 := keep_cell hSy k3; have e4 := keep_cell hSy k4; have e5 := keep_cell hSy k5; have e6 := keep_cell hSy k6; have e7 := keep_cell hSy k7; have e8 := keep_cell hSy k8; have e9 := keep_cell hSy k9; have e10 := keep_cell hSy k10; clear hSy hSx; first | (go_simp; done) | (go_simp; with_reducible rfl)
      simp only [Act.put, List.setIfInBounds_toArray, List.set_cons_zero, List.set_cons_succ]
      generalize hwa : World.drew _ = wa at hS ⊢
      clear hwa
      have HSa := Lib.hid hS
      clear hS k0 k1 k2 k3 k4 k5 k6 k7 k8 k9 k10
      refine wpAnyH_ready (rs := [10, 11, 12]) (by kernel_rfl) (by simp) ?_
      refine AllReadyH.cons rfl (fun K hK => ?_) (AllReadyH.cons rfl (fun K hK => ?_) (AllReadyH.cons rfl (fun K hK => ?_) AllReadyH.nil))
      · skip
        rw [if_pos (by rfl)]
        go_simp
        refine hK.out _ _ (Below.alloc HSa.out HSa.out.size _) (fun hS2 => ?_)
        clear hK K
        try simp only [Act.put, List.setIfInBounds_toArray, List.set_cons_zero, List.set_cons_succ]
        generalize hwb : World.alloc _ _ = wb at hS2 ⊢
        have HYM : Hid (wb.heap[wa.heap.size]? = some (.cells #[Value.int IntKind.i64 0, Value.int IntKind.i64 0, Value.slice none 0 0, Value.slice none 0 0] 24)) := Lib.hid (by rw [← hwb]; exact Go.heap_alloc_new _ _)
        have hgeM : w0.heap.size ≤ wa.heap.size := HSa.out.size
        replace HSa := Lib.hid hS2
        generalize wa.heap.size = kM at *
        clear hS2 hwb
        rename World => wa
        refine wpAnyH_ready (rs := [11, 12]) (by kernel_rfl) (by simp) ?_
        refine AllReadyH.cons rfl (fun K hK => ?_) (AllReadyH.cons rfl (fun K hK => ?_) AllReadyH.nil)
        · skip
          rw [if_pos (by rfl)]
          go_simp
          refine hK.out _ _ (Below.alloc HSa.out HSa.out.size _) (fun hS2 => ?_)
          clear hK K
          try simp only [Act.put, List.setIfInBounds_toArray, List.set_cons_zero, List.set_cons_succ]
          generalize hwb : World.alloc _ _ = wb at hS2 ⊢
          have HYL : Hid (wb.heap[wa.heap.size]? = some (.cells #[Value.slice none 0 0, Value.int IntKind.i64 0] 27)) := Lib.hid (by rw [← hwb]; exact Go.heap_alloc_new _ _)
          have hneML : kM ≠ wa.heap.size := Nat.ne_of_lt (Array.getElem?_eq_some_iff.1 HYM.out).1
          replace HYM : Hid (wb.heap[kM]? = some (.cells #[Value.int IntKind.i64 0, Value.int IntKind.i64 0, Value.slice none 0 0, Value.slice none 0 0] 24)) := Lib.hid (by rw [← hwb]; exact (heap_alloc_old _ _ (Array.getElem?_eq_some_iff.1 HYM.out).1).trans HYM.out)
          have hgeL : w0.heap.size ≤ wa.heap.size := HSa.out.size
          replace HSa := Lib.hid hS2
          generalize wa.heap.size = kL at *
          clear hS2 hwb
          rename World => wa
          refine wpAnyH_ready (rs := [12]) (by kernel_rfl) (by simp) ?_
          refine AllReadyH.cons rfl (fun K hK => ?_) AllReadyH.nil
          rw [if_pos (by rfl)]
          go_simp
          refine hK.out _ _ (Below.alloc HSa.out HSa.out.size _) (fun hS2 => ?_)
          clear hK K
          try simp only [Act.put, List.setIfInBounds_toArray, List.set_cons_zero, List.set_cons_succ]
          generalize hwb : World.alloc _ _ = wb at hS2 ⊢
          have HYF : Hid (wb.heap[wa.heap.size]? = some (.cells #[Value.int IntKind.i64 0, Value.int IntKind.i64 0, Value.int IntKind.i64 0] 29)) := Lib.hid (by rw [← hwb]; exact Go.heap_alloc_new _ _)
          have hneMF : kM ≠ wa.heap.size := Nat.ne_of_lt (Array.getElem?_eq_some_iff.1 HYM.out).1
          replace HYM : Hid (wb.heap[kM]? = some (.cells #[Value.int IntKind.i64 0, Value.int IntKind.i64 0, Value.slice none 0 0, Value.slice none 0 0] 24)) := Lib.hid (by rw [← hwb]; exact (heap_alloc_old _ _ (Array.getElem?_eq_some_iff.1 HYM.out).1).trans HYM.out)
          have hneLF : kL ≠ wa.heap.size := Nat.ne_of_lt (Array.getElem?_eq_some_iff.1 HYL.out).1
          replace HYL : Hid (wb.heap[kL]? = some (.cells #[Value.slice none 0 0, Value.int IntKind.i64 0] 27)) := Lib.hid (by rw [← hwb]; exact (heap_alloc_old _ _ (Array.getElem?_eq_some_iff.1 HYL.out).1).trans HYL.out)
          have hgeF : w0.heap.size ≤ wa.heap.size := HSa.out.size
          replace HSa := Lib.hid hS2
          generalize wa.heap.size = kF at *
          clear hS2 hwb
          rename World => wa
          refine wpAnyH_ready (rs := [13]) (by kernel_rfl) (by simp) ?_
          refine AllReadyH.cons rfl (fun K hK => ?_) AllReadyH.nil
          rw [if_pos (by rfl)]
          refine wp_store_row 24 _ _ rfl kM #[Value.int IntKind.i64 x.I, Value.int IntKind.i64 x.S, Value.slice A x.nx.length c, Value.slice B x.out.length d] rfl rfl 24 _ HYM.out (by kernel_rfl) rfl (by simp [Value.oneCell']) ?_
          refine hK.out _ _ (belowRow HSa.out hgeM _) (fun hS2 => ?_)
          clear hK K
          change wpAnyH _ _ _ _ _ _ _ (Act.put _ none _) _
          try simp only [Act.put]
          generalize hwb : World.setRow _ _ _ = wb at hS2 ⊢
          have HNM : Hid (wb.heap[kM]? = some (.cells #[Value.int IntKind.i64 x.I, Value.int IntKind.i64 x.S, Value.slice A x.nx.length c, Value.slice B x.out.length d] 24)) := Lib.hid (by rw [← hwb]; exact setRow_heap _ _ _ _ _ _ HYM.out)
          replace HYL : Hid (wb.heap[kL]? = some (.cells #[Value.slice none 0 0, Value.int IntKind.i64 0] 27)) := Lib.hid (by rw [← hwb]; exact (setRow_other _ _ _ _ (by omega)).trans HYL.out)
          replace HYF : Hid (wb.heap[kF]? = some (.cells #[Value.int IntKind.i64 0, Value.int IntKind.i64 0, Value.int IntKind.i64 0] 29)) := Lib.hid (by rw [← hwb]; exact (setRow_other _ _ _ _ (by omega)).trans HYF.out)
          replace HSa := Lib.hid hS2
          clear hS2 hwb
          rename World => wa
          refine wpAnyH_ready (rs := [14]) (by kernel_rfl) (by simp) ?_
          refine AllReadyH.cons rfl (fun K hK => ?_) AllReadyH.nil
          rw [if_pos (by rfl)]
          refine wp_store_row 27 _ _ rfl kL #[Value.slice C x.step.length e, Value.int IntKind.i64 x.rs] rfl rfl 27 _ HYL.out (by kernel_rfl) rfl (by simp [Value.oneCell']) ?_
          refine hK.out _ _ (belowRow HSa.out hgeL _) (fun hS2 => ?_)
          clear hK K
          change wpAnyH _ _ _ _ _ _ _ (Act.put _ none _) _
          try simp only [Act.put]
          generalize hwb : World.setRow _ _ _ = wb at hS2 ⊢
          have HNL : Hid (wb.heap[kL]? = some (.cells #[Value.slice C x.step.length e, Value.int IntKind.i64 x.rs] 27)) := Lib.hid (by rw [← hwb]; exact setRow_heap _ _ _ _ _ _ HYL.out)
          replace HYF : Hid (wb.heap[kF]? = some (.cells #[Value.int IntKind.i64 0, Value.int IntKind.i64 0, Value.int IntKind.i64 0] 29)) := Lib.hid (by rw [← hwb]; exact (setRow_other _ _ _ _ (by omega)).trans HYF.out)
          replace HNM : Hid (wb.heap[kM]? = some (.cells #[Value.int IntKind.i64 x.I, Value.int IntKind.i64 x.S, Value.slice A x.nx.length c, Value.slice B x.out.length d] 24)) := Lib.hid (by rw [← hwb]; exact (setRow_other _ _ _ _ (by omega)).trans HNM.out)
          replace HSa := Lib.hid hS2
          clear hS2 hwb
          rename World => wa
          refine wpAnyH_ready (rs := [15]) (by kernel_rfl) (by simp) ?_
          refine AllReadyH.cons rfl (fun K hK => ?_) AllReadyH.nil
          rw [if_pos (by rfl)]
          refine wp_store_row 29 _ _ rfl kF #[Value.int IntKind.i64 x.lost, Value.int IntKind.i64 x.wrong, Value.int IntKind.i64 x.crash] rfl rfl 29 _ HYF.out (by kernel_rfl) rfl (by simp [Value.oneCell']) ?_
          refine hK.out _ _ (belowRow HSa.out hgeF _) (fun hS2 => ?_)
          clear hK K
          change wpAnyH _ _ _ _ _ _ _ (Act.put _ none _) _
          try simp only [Act.put]
          generalize hwb : World.setRow _ _ _ = wb at hS2 ⊢
          have HNF : Hid (wb.heap[kF]? = some (.cells #[Value.int IntKind.i64 x.lost, Value.int IntKind.i64 x.wrong, Value.int IntKind.i64 x.crash] 29)) := Lib.hid (by rw [← hwb]; exact setRow_heap _ _ _ _ _ _ HYF.out)
          replace HNM : Hid (wb.heap[kM]? = some (.cells #[Value.int IntKind.i64 x.I, Value.int IntKind.i64 x.S, Value.slice A x.nx.length c, Value.slice B x.out.length d] 24)) := Lib.hid (by rw [← hwb]; exact (setRow_other _ _ _ _ (by omega)).trans HNM.out)
          replace HNL : Hid (wb.heap[kL]? = some (.cells #[Value.slice C x.step.length e, Value.int IntKind.i64 x.rs] 27)) := Lib.hid (by rw [← hwb]; exact (setRow_other _ _ _ _ (by omega)).trans HNL.out)
          replace HSa := Lib.hid hS2
          clear hS2 hwb
          rename World => wa
          refine takeH (i := 16) (d := some 6) (v := ?_) rfl rfl (by kernel_rfl) (by kernel_rfl) (by kernel_rfl) (fun _ _ _ h => h) (Or.inl ⟨by rfl, ?_⟩) HSa.out ?_
          rotate_left
          · intro wx hSx; clear hSx; first | (go_simp; done) | (go_simp; with_reducible rfl)
          simp only [Act.put, List.setIfInBounds_toArray, List.set_cons_zero, List.set_cons_succ]
          refine takeH (i := 17) (d := some 7) (v := ?_) rfl rfl (by kernel_rfl) (by kernel_rfl) (by kernel_rfl) (fun _ _ _ h => h) (Or.inl ⟨by rfl, ?_⟩) HSa.out ?_
          rotate_left
          · intro wx hSx; clear hSx; first | (go_simp; done) | (go_simp; with_reducible rfl)
          simp only [Act.put, List.setIfInBounds_toArray, List.set_cons_zero, List.set_cons_succ]
          refine wpAnyH_done (by kernel_rfl) ?_ _
          go_wp2_with fail
          go_meet
          refine ⟨kM, kL, kF, rfl, rfl, rfl, rfl, rfl, ⟨?_, ?_, ?_, ?_⟩, ⟨?_, ?_⟩, ⟨?_, ?_, ?_⟩, below_seq HB0.out HSa.out⟩
          · rw [cell_of_row wa kM _ _ 24 (0, 0) HNM.out]; rfl
          · rw [cell_of_row wa kM _ _ 24 (0, 0) HNM.out]; rfl
          · rw [cell_of_row wa kM _ _ 24 (0, 0) HNM.out]; rfl
          · rw [cell_of_row wa kM _ _ 24 (0, 0) HNM.out]; rfl
          · rw [cell_of_row wa kL _ _ 27 (0, 0) HNL.out]; rfl
          · rw [cell_of_row wa kL _ _ 27 (0, 0) HNL.out]; rfl
          · rw [cell_of_row wa kF _ _ 29 (0, 0) HNF.out]; rfl
          · rw [cell_of_row wa kF _ _ 29 (0, 0) HNF.out]; rfl
          · rw [cell_of_row wa kF _ _ 29 (0, 0) HNF.out]; rfl
        · skip
          rw [if_pos (by rfl)]
          go_simp
          refine hK.out _ _ (Below.alloc HSa.out HSa.out.size _) (fun hS2 => ?_)
          clear hK K
          try simp only [Act.put, List.setIfInBounds_toArray, List.set_cons_zero, List.set_cons_succ]
          generalize hwb : World.alloc _ _ = wb at hS2 ⊢
          have HYF : Hid (wb.heap[wa.heap.size]? = some (.cells #[Value.int IntKind.i64 0, Value.int IntKind.i64 0, Value.int IntKind.i64 0] 29)) := Lib.hid (by rw [← hwb]; exact Go.heap_alloc_new _ _)
          have hneMF : kM ≠ wa.heap.size := Nat.ne_of_lt (Array.getElem?_eq_some_iff.1 HYM.out).1
          replace HYM : Hid (wb.heap[kM]? = some (.cells #[Value.int IntKind.i64 0, Value.int IntKind.i64 0, Value.slice none 0 0, Value.slice none 0 0] 24)) := Lib.hid (by rw [← hwb]; exact (heap_alloc_old _ _ (Array.getElem?_eq_some_iff.1 HYM.out).1).trans HYM.out)
          have hgeF : w0.heap.size ≤ wa.heap.size := HSa.out.size
          replace HSa := Lib.hid hS2
          generalize wa.heap.size = kF at *
          clear hS2 hwb
          rename World => wa
          refine wpAnyH_ready (rs := [11]) (by kernel_rfl) (by simp) ?_
          refine AllReadyH.cons rfl (fun K hK => ?_) AllReadyH.nil
          rw [if_pos (by rfl)]
          go_simp
          refine hK.out _ _ (Below.alloc HSa.out HSa.out.size _) (fun hS2 => ?_)
          clear hK K
          try simp only [Act.put, List.setIfInBounds_toArray, List.set_cons_zero, List.set_cons_succ]
          generalize hwb : World.alloc _ _ = wb at hS2 ⊢
          have HYL : Hid (wb.heap[wa.heap.size]? = some (.cells #[Value.slice none 0 0, Value.int IntKind.i64 0] 27)) := Lib.hid (by rw [← hwb]; exact Go.heap_alloc_new _ _)
          have hneML : kM ≠ wa.heap.size := Nat.ne_of_lt (Array.getElem?_eq_some_iff.1 HYM.out).1
          replace HYM : Hid (wb.heap[kM]? = some (.cells #[Value.int IntKind.i64 0, Value.int IntKind.i64 0, Value.slice none 0 0, Value.slice none 0 0] 24)) := Lib.hid (by rw [← hwb]; exact (heap_alloc_old _ _ (Array.getElem?_eq_some_iff.1 HYM.out).1).trans HYM.out)
          have hneFL : kF ≠ wa.heap.size := Nat.ne_of_lt (Array.getElem?_eq_some_iff.1 HYF.out).1
          replace HYF : Hid (wb.heap[kF]? = some (.cells #[Value.int IntKind.i64 0, Value.int IntKind.i64 0, Value.int IntKind.i64 0] 29)) := Lib.hid (by rw [← hwb]; exact (heap_alloc_old _ _ (Array.getElem?_eq_some_iff.1 HYF.out).1).trans HYF.out)
          have hgeL : w0.heap.size ≤ wa.heap.size := HSa.out.size
          replace HSa := Lib.hid hS2
          generalize wa.heap.size = kL at *
          clear hS2 hwb
          rename World => wa
          refine wpAnyH_ready (rs := [13]) (by kernel_rfl) (by simp) ?_
          refine AllReadyH.cons rfl (fun K hK => ?_) AllReadyH.nil
          rw [if_pos (by rfl)]
          refine wp_store_row 24 _ _ rfl kM #[Value.int IntKind.i64 x.I, Value.int IntKind.i64 x.S, Value.slice A x.nx.length c, Value.slice B x.out.length d] rfl rfl 24 _ HYM.out (by kernel_rfl) rfl (by simp [Value.oneCell']) ?_
          refine hK.out _ _ (belowRow HSa.out hgeM _) (fun hS2 => ?_)
          clear hK K
          change wpAnyH _ _ _ _ _ _ _ (Act.put _ none _) _
          try simp only [Act.put]
          generalize hwb : World.setRow _ _ _ = wb at hS2 ⊢
          have HNM : Hid (wb.heap[kM]? = some (.cells #[Value.int IntKind.i64 x.I, Value.int IntKind.i64 x.S, Value.slice A x.nx.length c, Value.slice B x.out.length d] 24)) := Lib.hid (by rw [← hwb]; exact setRow_heap _ _ _ _ _ _ HYM.out)
          replace HYL : Hid (wb.heap[kL]? = some (.cells #[Value.slice none 0 0, Value.int IntKind.i64 0] 27)) := Lib.hid (by rw [← hwb]; exact (setRow_other _ _ _ _ (by omega)).trans HYL.out)
          replace HYF : Hid (wb.heap[kF]? = some (.cells #[Value.int IntKind.i64 0, Value.int IntKind.i64 0, Value.int IntKind.i64 0] 29)) := Lib.hid (by rw [← hwb]; exact (setRow_other _ _ _ _ (by omega)).trans HYF.out)
          replace HSa := Lib.hid hS2
          clear hS2 hwb
          rename World => wa
          refine wpAnyH_ready (rs := [14]) (by kernel_rfl) (by simp) ?_
          refine AllReadyH.cons rfl (fun K hK => ?_) AllReadyH.nil
          rw [if_pos (by rfl)]
          refine wp_store_row 27 _ _ rfl kL #[Value.slice C x.step.length e, Value.int IntKind.i64 x.rs] rfl rfl 27 _ HYL.out (by kernel_rfl) rfl (by simp [Value.oneCell']) ?_
          refine hK.out _ _ (belowRow HSa.out hgeL _) (fun hS2 => ?_)
          clear hK K
          change wpAnyH _ _ _ _ _ _ _ (Act.put _ none _) _
          try simp only [Act.put]
          generalize hwb : World.setRow _ _ _ = wb at hS2 ⊢
          have HNL : Hid (wb.heap[kL]? = some (.cells #[Value.slice C x.step.length e, Value.int IntKind.i64 x.rs] 27)) := Lib.hid (by rw [← hwb]; exact setRow_heap _ _ _ _ _ _ HYL.out)
          replace HYF : Hid (wb.heap[kF]? = some (.cells #[Value.int IntKind.i64 0, Value.int IntKind.i64 0, Value.int IntKind.i64 0] 29)) := Lib.hid (by rw [← hwb]; exact (setRow_other _ _ _ _ (by omega)).trans HYF.out)
          replace HNM : Hid (wb.heap[kM]? = some (.cells #[Value.int IntKind.i64 x.I, Value.int IntKind.i64 x.S, Value.slice A x.nx.length c, Value.slice B x.out.length d] 24)) := Lib.hid (by rw [← hwb]; exact (setRow_other _ _ _ _ (by omega)).trans HNM.out)
          replace HSa := Lib.hid hS2
          clear hS2 hwb
          rename World => wa
          refine wpAnyH_ready (rs := [15]) (by kernel_rfl) (by simp) ?_
          refine AllReadyH.cons rfl (fun K hK => ?_) AllReadyH.nil
          rw [if_pos (by rfl)]
          refine wp_store_row 29 _ _ rfl kF #[Value.int IntKind.i64 x.lost, Value.int IntKind.i64 x.wrong, Value.int IntKind.i64 x.crash] rfl rfl 29 _ HYF.out (by kernel_rfl) rfl (by simp [Value.oneCell']) ?_
          refine hK.out _ _ (belowRow HSa.out hgeF _) (fun hS2 => ?_)
          clear hK K
          change wpAnyH _ _ _ _ _ _ _ (Act.put _ none _) _
          try simp only [Act.put]
          generalize hwb : World.setRow _ _ _ = wb at hS2 ⊢
          have HNF : Hid (wb.heap[kF]? = some (.cells #[Value.int IntKind.i64 x.lost, Value.int IntKind.i64 x.wrong, Value.int IntKind.i64 x.crash] 29)) := Lib.hid (by rw [← hwb]; exact setRow_heap _ _ _ _ _ _ HYF.out)
          replace HNM : Hid (wb.heap[kM]? = some (.cells #[Value.int IntKind.i64 x.I, Value.int IntKind.i64 x.S, Value.slice A x.nx.length c, Value.slice B x.out.length d] 24)) := Lib.hid (by rw [← hwb]; exact (setRow_other _ _ _ _ (by omega)).trans HNM.out)
          replace HNL : Hid (wb.heap[kL]? = some (.cells #[Value.slice C x.step.length e, Value.int IntKind.i64 x.rs] 27)) := Lib.hid (by rw [← hwb]; exact (setRow_other _ _ _ _ (by omega)).trans HNL.out)
          replace HSa := Lib.hid hS2
          clear hS2 hwb
          rename World => wa
          refine takeH (i := 16) (d := some 6) (v := ?_) rfl rfl (by kernel_rfl) (by kernel_rfl) (by kernel_rfl) (fun _ _ _ h => h) (Or.inl ⟨by rfl, ?_⟩) HSa.out ?_
          rotate_left
          · intro wx hSx; clear hSx; first | (go_simp; done) | (go_simp; with_reducible rfl)
          simp only [Act.put, List.setIfInBounds_toArray, List.set_cons_zero, List.set_cons_succ]
          refine takeH (i := 17) (d := some 7) (v := ?_) rfl rfl (by kernel_rfl) (by kernel_rfl) (by kernel_rfl) (fun _ _ _ h => h) (Or.inl ⟨by rfl, ?_⟩) HSa.out ?_
          rotate_left
          · intro wx hSx; clear hSx; first | (go_simp; done) | (go_simp; with_reducible rfl)
          simp only [Act.put, List.setIfInBounds_toArray, List.set_cons_zero, List.set_cons_succ]
          refine wpAnyH_done (by kernel_rfl) ?_ _
          go_wp2_with fail
          go_meet
          refine ⟨kM, kL, kF, rfl, rfl, rfl, rfl, rfl, ⟨?_, ?_, ?_, ?_⟩, ⟨?_, ?_⟩, ⟨?_, ?_, ?_⟩, below_seq HB0.out HSa.out⟩
          · rw [cell_of_row wa kM _ _ 24 (0, 0) HNM.out]; rfl
          · rw [cell_of_row wa kM _ _ 24 (0, 0) HNM.out]; rfl
          · rw [cell_of_row wa kM _ _ 24 (0, 0) HNM.out]; rfl
          · rw [cell_of_row wa kM _ _ 24 (0, 0) HNM.out]; rfl
          · rw [cell_of_row wa kL _ _ 27 (0, 0) HNL.out]; rfl
          · rw [cell_of_row wa kL _ _ 27 (0, 0) HNL.out]; rfl
          · rw [cell_of_row wa kF _ _ 29 (0, 0) HNF.out]; rfl
          · rw [cell_of_row wa kF _ _ 29 (0, 0) HNF.out]; rfl
          · rw [cell_of_row wa kF _ _ 29 (0, 0) HNF.out]; rfl
      · skip
        rw [if_pos (by rfl)]
        go_simp
        refine hK.out _ _ (Below.alloc HSa.out HSa.out.size _) (fun hS2 => ?_)
        clear hK K
        try simp only [Act.put, List.setIfInBounds_toArray, List.set_cons_zero, List.set_cons_succ]
        generalize hwb : World.alloc _ _ = wb at hS2 ⊢
        have HYL : Hid (wb.heap[wa.heap.size]? = some (.cells #[Value.slice none 0 0, Value.int IntKind.i64 0] 27)) := Lib.hid (by rw [← hwb]; exact Go.heap_alloc_new _ _)
        have hgeL : w0.heap.size ≤ wa.heap.size := HSa.out.size
        replace HSa := Lib.hid hS2
        generalize wa.heap.size = kL at *
        clear hS2 hwb
        rename World => wa
        refine wpAnyH_ready (rs := [10, 12]) (by kernel_rfl) (by simp) ?_
        refine AllReadyH.cons rfl (fun K hK => ?_) (AllReadyH.cons rfl (fun K hK => ?_) AllReadyH.nil)
        · skip
          rw [if_pos (by rfl)]
          go_simp
          refine hK.out _ _ (Below.alloc HSa.out HSa.out.size _) (fun hS2 => ?_)
          clear hK K
          try simp only [Act.put, List.setIfInBounds_toArray, List.set_cons_zero, List.set_cons_succ]
          generalize hwb : World.alloc _ _ = wb at hS2 ⊢
          have HYM : Hid (wb.heap[wa.heap.size]? = some (.cells #[Value.int IntKind.i64 0, Value.int IntKind.i64 0, Value.slice none 0 0, Value.slice none 0 0] 24)) := Lib.hid (by rw [← hwb]; exact Go.heap_alloc_new _ _)
          have hneLM : kL ≠ wa.heap.size := Nat.ne_of_lt (Array.getElem?_eq_some_iff.1 HYL.out).1
          replace HYL : Hid (wb.heap[kL]? = some (.cells #[Value.slice none 0 0, Value.int IntKind.i64 0] 27)) := Lib.hid (by rw [← hwb]; exact (heap_alloc_old _ _ (Array.getElem?_eq_some_iff.1 HYL.out).1).trans HYL.out)
          have hgeM : w0.heap.size ≤ wa.heap.size := HSa.out.size
          replace HSa := Lib.hid hS2
          generalize wa.heap.size = kM at *
          clear hS2 hwb
          rename World => wa
          refine wpAnyH_ready (rs := [12]) (by kernel_rfl) (by simp) ?_
          refine AllReadyH.cons rfl (fun K hK => ?_) AllReadyH.nil
          rw [if_pos (by rfl)]
          go_simp
          refine hK.out _ _ (Below.alloc HSa.out HSa.out.size _) (fun hS2 => ?_)
          clear hK K
          try simp only [Act.put, List.setIfInBounds_toArray, List.set_cons_zero, List.set_cons_succ]
          generalize hwb : World.alloc _ _ = wb at hS2 ⊢
          have HYF : Hid (wb.heap[wa.heap.size]? = some (.cells #[Value.int IntKind.i64 0, Value.int IntKind.i64 0, Value.int IntKind.i64 0] 29)) := Lib.hid (by rw [← hwb]; exact Go.heap_alloc_new _ _)
          have hneLF : kL ≠ wa.heap.size := Nat.ne_of_lt (Array.getElem?_eq_some_iff.1 HYL.out).1
          replace HYL : Hid (wb.heap[kL]? = some (.cells #[Value.slice none 0 0, Value.int IntKind.i64 0] 27)) := Lib.hid (by rw [← hwb]; exact (heap_alloc_old _ _ (Array.getElem?_eq_some_iff.1 HYL.out).1).trans HYL.out)
          have hneMF : kM ≠ wa.heap.size := Nat.ne_of_lt (Array.getElem?_eq_some_iff.1 HYM.out).1
          replace HYM : Hid (wb.heap[kM]? = some (.cells #[Value.int IntKind.i64 0, Value.int IntKind.i64 0, Value.slice none 0 0, Value.slice none 0 0] 24)) := Lib.hid (by rw [← hwb]; exact (heap_alloc_old _ _ (Array.getElem?_eq_some_iff.1 HYM.out).1).trans HYM.out)
          have hgeF : w0.heap.size ≤ wa.heap.size := HSa.out.size
          replace HSa := Lib.hid hS2
          generalize wa.heap.size = kF at *
          clear hS2 hwb
          rename World => wa
          refine wpAnyH_ready (rs := [13]) (by kernel_rfl) (by simp) ?_
          refine AllReadyH.cons rfl (fun K hK => ?_) AllReadyH.nil
          rw [if_pos (by rfl)]
          refine wp_store_row 24 _ _ rfl kM #[Value.int IntKind.i64 x.I, Value.int IntKind.i64 x.S, Value.slice A x.nx.length c, Value.slice B x.out.length d] rfl rfl 24 _ HYM.out (by kernel_rfl) rfl (by simp [Value.oneCell']) ?_
          refine hK.out _ _ (belowRow HSa.out hgeM _) (fun hS2 => ?_)
          clear hK K
          change wpAnyH _ _ _ _ _ _ _ (Act.put _ none _) _
          try simp only [Act.put]
          generalize hwb : World.setRow _ _ _ = wb at hS2 ⊢
          have HNM : Hid (wb.heap[kM]? = some (.cells #[Value.int IntKind.i64 x.I, Value.int IntKind.i64 x.S, Value.slice A x.nx.length c, Value.slice B x.out.length d] 24)) := Lib.hid (by rw [← hwb]; exact setRow_heap _ _ _ _ _ _ HYM.out)
          replace HYL : Hid (wb.heap[kL]? = some (.cells #[Value.slice none 0 0, Value.int IntKind.i64 0] 27)) := Lib.hid (by rw [← hwb]; exact (setRow_other _ _ _ _ (by omega)).trans HYL.out)
          replace HYF : Hid (wb.heap[kF]? = some (.cells #[Value.int IntKind.i64 0, Value.int IntKind.i64 0, Value.int IntKind.i64 0] 29)) := Lib.hid (by rw [← hwb]; exact (setRow_other _ _ _ _ (by omega)).trans HYF.out)
          replace HSa := Lib.hid hS2
          clear hS2 hwb
          rename World => wa
          refine wpAnyH_ready (rs := [14]) (by kernel_rfl) (by simp) ?_
          refine AllReadyH.cons rfl (fun K hK => ?_) AllReadyH.nil
          rw [if_pos (by rfl)]
          refine wp_store_row 27 _ _ rfl kL #[Value.slice C x.step.length e, Value.int IntKind.i64 x.rs] rfl rfl 27 _ HYL.out (by kernel_rfl) rfl (by simp [Value.oneCell']) ?_
          refine hK.out _ _ (belowRow HSa.out hgeL _) (fun hS2 => ?_)
          clear hK K
          change wpAnyH _ _ _ _ _ _ _ (Act.put _ none _) _
          try simp only [Act.put]
          generalize hwb : World.setRow _ _ _ = wb at hS2 ⊢
          have HNL : Hid (wb.heap[kL]? = some (.cells #[Value.slice C x.step.length e, Value.int IntKind.i64 x.rs] 27)) := Lib.hid (by rw [← hwb]; exact setRow_heap _ _ _ _ _ _ HYL.out)
          replace HYF : Hid (wb.heap[kF]? = some (.cells #[Value.int IntKind.i64 0, Value.int IntKind.i64 0, Value.int IntKind.i64 0] 29)) := Lib.hid (by rw [← hwb]; exact (setRow_other _ _ _ _ (by omega)).trans HYF.out)
          replace HNM : Hid (wb.heap[kM]? = some (.cells #[Value.int IntKind.i64 x.I, Value.int IntKind.i64 x.S, Value.slice A x.nx.length c, Value.slice B x.out.length d] 24)) := Lib.hid (by rw [← hwb]; exact (setRow_other _ _ _ _ (by omega)).trans HNM.out)
          replace HSa := Lib.hid hS2
          clear hS2 hwb
          rename World => wa
          refine wpAnyH_ready (rs := [15]) (by kernel_rfl) (by simp) ?_
          refine AllReadyH.cons rfl (fun K hK => ?_) AllReadyH.nil
          rw [if_pos (by rfl)]
          refine wp_store_row 29 _ _ rfl kF #[Value.int IntKind.i64 x.lost, Value.int IntKind.i64 x.wrong, Value.int IntKind.i64 x.crash] rfl rfl 29 _ HYF.out (by kernel_rfl) rfl (by simp [Value.oneCell']) ?_
          refine hK.out _ _ (belowRow HSa.out hgeF _) (fun hS2 => ?_)
          clear hK K
          change wpAnyH _ _ _ _ _ _ _ (Act.put _ none _) _
          try simp only [Act.put]
          generalize hwb : World.setRow _ _ _ = wb at hS2 ⊢
          have HNF : Hid (wb.heap[kF]? = some (.cells #[Value.int IntKind.i64 x.lost, Value.int IntKind.i64 x.wrong, Value.int IntKind.i64 x.crash] 29)) := Lib.hid (by rw [← hwb]; exact setRow_heap _ _ _ _ _ _ HYF.out)
          replace HNM : Hid (wb.heap[kM]? = some (.cells #[Value.int IntKind.i64 x.I, Value.int IntKind.i64 x.S, Value.slice A x.nx.length c, Value.slice B x.out.length d] 24)) := Lib.hid (by rw [← hwb]; exact (setRow_other _ _ _ _ (by omega)).trans HNM.out)
          replace HNL : Hid (wb.heap[kL]? = some (.cells #[Value.slice C x.step.length e, Value.int IntKind.i64 x.rs] 27)) := Lib.hid (by rw [← hwb]; exact (setRow_other _ _ _ _ (by omega)).trans HNL.out)
          replace HSa := Lib.hid hS2
          clear hS2 hwb
          rename World => wa
          refine takeH (i := 16) (d := some 6) (v := ?_) rfl rfl (by kernel_rfl) (by kernel_rfl) (by kernel_rfl) (fun _ _ _ h => h) (Or.inl ⟨by rfl, ?_⟩) HSa.out ?_
          rotate_left
          · intro wx hSx; clear hSx; first | (go_simp; done) | (go_simp; with_reducible rfl)
          simp only [Act.put, List.setIfInBounds_toArray, List.set_cons_zero, List.set_cons_succ]
          refine takeH (i := 17) (d := some 7) (v := ?_) rfl rfl (by kernel_rfl) (by kernel_rfl) (by kernel_rfl) (fun _ _ _ h => h) (Or.inl ⟨by rfl, ?_⟩) HSa.out ?_
          rotate_left
          · intro wx hSx; clear hSx; first | (go_simp; done) | (go_simp; with_reducible rfl)
          simp only [Act.put, List.setIfInBounds_toArray, List.set_cons_zero, List.set_cons_succ]
          refine wpAnyH_done (by kernel_rfl) ?_ _
          go_wp2_with fail
          go_meet
          refine ⟨kM, kL, kF, rfl, rfl, rfl, rfl, rfl, ⟨?_, ?_, ?_, ?_⟩, ⟨?_, ?_⟩, ⟨?_, ?_, ?_⟩, below_seq HB0.out HSa.out⟩
          · rw [cell_of_row wa kM _ _ 24 (0, 0) HNM.out]; rfl
          · rw [cell_of_row wa kM _ _ 24 (0, 0) HNM.out]; rfl
          · rw [cell_of_row wa kM _ _ 24 (0, 0) HNM.out]; rfl
          · rw [cell_of_row wa kM _ _ 24 (0, 0) HNM.out]; rfl
          · rw [cell_of_row wa kL _ _ 27 (0, 0) HNL.out]; rfl
          · rw [cell_of_row wa kL _ _ 27 (0, 0) HNL.out]; rfl
          · rw [cell_of_row wa kF _ _ 29 (0, 0) HNF.out]; rfl
          · rw [cell_of_row wa kF _ _ 29 (0, 0) HNF.out]; rfl
          · rw [cell_of_row wa kF _ _ 29 (0, 0) HNF.out]; rfl
        · skip
          rw [if_pos (by rfl)]
          go_simp
          refine hK.out _ _ (Below.alloc HSa.out HSa.out.size _) (fun hS2 => ?_)
          clear hK K
          try simp only [Act.put, List.setIfInBounds_toArray, List.set_cons_zero, List.set_cons_succ]
          generalize hwb : World.alloc _ _ = wb at hS2 ⊢
          have HYF : Hid (wb.heap[wa.heap.size]? = some (.cells #[Value.int IntKind.i64 0, Value.int IntKind.i64 0, Value.int IntKind.i64 0] 29)) := Lib.hid (by rw [← hwb]; exact Go.heap_alloc_new _ _)
          have hneLF : kL ≠ wa.heap.size := Nat.ne_of_lt (Array.getElem?_eq_some_iff.1 HYL.out).1
          replace HYL : Hid (wb.heap[kL]? = some (.cells #[Value.slice none 0 0, Value.int IntKind.i64 0] 27)) := Lib.hid (by rw [← hwb]; exact (heap_alloc_old _ _ (Array.getElem?_eq_some_iff.1 HYL.out).1).trans HYL.out)
          have hgeF : w0.heap.size ≤ wa.heap.size := HSa.out.size
          replace HSa := Lib.hid hS2
          generalize wa.heap.size = kF at *
          clear hS2 hwb
          rename World => wa
          refine wpAnyH_ready (rs := [10]) (by kernel_rfl) (by simp) ?_
          refine AllReadyH.cons rfl (fun K hK => ?_) AllReadyH.nil
          rw [if_pos (by rfl)]
          go_simp
          refine hK.out _ _ (Below.alloc HSa.out HSa.out.size _) (fun hS2 => ?_)
          clear hK K
          try simp only [Act.put, List.setIfInBounds_toArray, List.set_cons_zero, List.set_cons_succ]
          generalize hwb : World.alloc _ _ = wb at hS2 ⊢
          have HYM : Hid (wb.heap[wa.heap.size]? = some (.cells #[Value.int IntKind.i64 0, Value.int IntKind.i64 0, Value.slice none 0 0, Value.slice none 0 0] 24)) := Lib.hid (by rw [← hwb]; exact Go.heap_alloc_new _ _)
          have hneLM : kL ≠ wa.heap.size := Nat.ne_of_lt (Array.getElem?_eq_some_iff.1 HYL.out).1
          replace HYL : Hid (wb.heap[kL]? = some (.cells #[Value.slice none 0 0, Value.int IntKind.i64 0] 27)) := Lib.hid (by rw [← hwb]; exact (heap_alloc_old _ _ (Array.getElem?_eq_some_iff.1 HYL.out).1).trans HYL.out)
          have hneFM : kF ≠ wa.heap.size := Nat.ne_of_lt (Array.getElem?_eq_some_iff.1 HYF.out).1
          replace HYF : Hid (wb.heap[kF]? = some (.cells #[Value.int IntKind.i64 0, Value.int IntKind.i64 0, Value.int IntKind.i64 0] 29)) := Lib.hid (by rw [← hwb]; exact (heap_alloc_old _ _ (Array.getElem?_eq_some_iff.1 HYF.out).1).trans HYF.out)
          have hgeM : w0.heap.size ≤ wa.heap.size := HSa.out.size
          replace HSa := Lib.hid hS2
          generalize wa.heap.size = kM at *
          clear hS2 hwb
          rename World => wa
          refine wpAnyH_ready (rs := [13]) (by kernel_rfl) (by simp) ?_
          refine AllReadyH.cons rfl (fun K hK => ?_) AllReadyH.nil
          rw [if_pos (by rfl)]
          refine wp_store_row 24 _ _ rfl kM #[Value.int IntKind.i64 x.I, Value.int IntKind.i64 x.S, Value.slice A x.nx.length c, Value.slice B x.out.length d] rfl rfl 24 _ HYM.out (by kernel_rfl) rfl (by simp [Value.oneCell']) ?_
          refine hK.out _ _ (belowRow HSa.out hgeM _) (fun hS2 => ?_)
          clear hK K
          change wpAnyH _ _ _ _ _ _ _ (Act.put _ none _) _
          try simp only [Act.put]
          generalize hwb : World.setRow _ _ _ = wb at hS2 ⊢
          have HNM : Hid (wb.heap[kM]? = some (.cells #[Value.int IntKind.i64 x.I, Value.int IntKind.i64 x.S, Value.slice A x.nx.length c, Value.slice B x.out.length d] 24)) := Lib.hid (by rw [← hwb]; exact setRow_heap _ _ _ _ _ _ HYM.out)
          replace HYL : Hid (wb.heap[kL]? = some (.cells #[Value.slice none 0 0, Value.int IntKind.i64 0] 27)) := Lib.hid (by rw [← hwb]; exact (setRow_other _ _ _ _ (by omega)).trans HYL.out)
          replace HYF : Hid (wb.heap[kF]? = some (.cells #[Value.int IntKind.i64 0, Value.int IntKind.i64 0, Value.int IntKind.i64 0] 29)) := Lib.hid (by rw [← hwb]; exact (setRow_other _ _ _ _ (by omega)).trans HYF.out)
          replace HSa := Lib.hid hS2
          clear hS2 hwb
          rename World => wa
          refine wpAnyH_ready (rs := [14]) (by kernel_rfl) (by simp) ?_
          refine AllReadyH.cons rfl (fun K hK => ?_) AllReadyH.nil
          rw [if_pos (by rfl)]
          refine wp_store_row 27 _ _ rfl kL #[Value.slice C x.step.length e, Value.int IntKind.i64 x.rs] rfl rfl 27 _ HYL.out (by kernel_rfl) rfl (by simp [Value.oneCell']) ?_
          refine hK.out _ _ (belowRow HSa.out hgeL _) (fun hS2 => ?_)
          clear hK K
          change wpAnyH _ _ _ _ _ _ _ (Act.put _ none _) _
          try simp only [Act.put]
          generalize hwb : World.setRow _ _ _ = wb at hS2 ⊢
          have HNL : Hid (wb.heap[kL]? = some (.cells #[Value.slice C x.step.length e, Value.int IntKind.i64 x.rs] 27)) := Lib.hid (by rw [← hwb]; exact setRow_heap _ _ _ _ _ _ HYL.out)
          replace HYF : Hid (wb.heap[kF]? = some (.cells #[Value.int IntKind.i64 0, Value.int IntKind.i64 0, Value.int IntKind.i64 0] 29)) := Lib.hid (by rw [← hwb]; exact (setRow_other _ _ _ _ (by omega)).trans HYF.out)
          replace HNM : Hid (wb.heap[kM]? = some (.cells #[Value.int IntKind.i64 x.I, Value.int IntKind.i64 x.S, Value.slice A x.nx.length c, Value.slice B x.out.length d] 24)) := Lib.hid (by rw [← hwb]; exact (setRow_other _ _ _ _ (by omega)).trans HNM.out)
          replace HSa := Lib.hid hS2
          clear hS2 hwb
          rename World => wa
          refine wpAnyH_ready (rs := [15]) (by kernel_rfl) (by simp) ?_
          refine AllReadyH.cons rfl (fun K hK => ?_) AllReadyH.nil
          rw [if_pos (by rfl)]
          refine wp_store_row 29 _ _ rfl kF #[Value.int IntKind.i64 x.lost, Value.int IntKind.i64 x.wrong, Value.int IntKind.i64 x.crash] rfl rfl 29 _ HYF.out (by kernel_rfl) rfl (by simp [Value.oneCell']) ?_
          refine hK.out _ _ (belowRow HSa.out hgeF _) (fun hS2 => ?_)
          clear hK K
          change wpAnyH _ _ _ _ _ _ _ (Act.put _ none _) _
          try simp only [Act.put]
          generalize hwb : World.setRow _ _ _ = wb at hS2 ⊢
          have HNF : Hid (wb.heap[kF]? = some (.cells #[Value.int IntKind.i64 x.lost, Value.int IntKind.i64 x.wrong, Value.int IntKind.i64 x.crash] 29)) := Lib.hid (by rw [← hwb]; exact setRow_heap _ _ _ _ _ _ HYF.out)
          replace HNM : Hid (wb.heap[kM]? = some (.cells #[Value.int IntKind.i64 x.I, Value.int IntKind.i64 x.S, Value.slice A x.nx.length c, Value.slice B x.out.length d] 24)) := Lib.hid (by rw [← hwb]; exact (setRow_other _ _ _ _ (by omega)).trans HNM.out)
          replace HNL : Hid (wb.heap[kL]? = some (.cells #[Value.slice C x.step.length e, Value.int IntKind.i64 x.rs] 27)) := Lib.hid (by rw [← hwb]; exact (setRow_other _ _ _ _ (by omega)).trans HNL.out)
          replace HSa := Lib.hid hS2
          clear hS2 hwb
          rename World => wa
          refine takeH (i := 16) (d := some 6) (v := ?_) rfl rfl (by kernel_rfl) (by kernel_rfl) (by kernel_rfl) (fun _ _ _ h => h) (Or.inl ⟨by rfl, ?_⟩) HSa.out ?_
          rotate_left
          · intro wx hSx; clear hSx; first | (go_simp; done) | (go_simp; with_reducible rfl)
          simp only [Act.put, List.setIfInBounds_toArray, List.set_cons_zero, List.set_cons_succ]
          refine takeH (i := 17) (d := some 7) (v := ?_) rfl rfl (by kernel_rfl) (by kernel_rfl) (by kernel_rfl) (fun _ _ _ h => h) (Or.inl ⟨by rfl, ?_⟩) HSa.out ?_
          rotate_left
          · intro wx hSx; clear hSx; first | (go_simp; done) | (go_simp; with_reducible rfl)
          simp only [Act.put, List.setIfInBounds_toArray, List.set_cons_zero, List.set_cons_succ]
          refine wpAnyH_done (by kernel_rfl) ?_ _
          go_wp2_with fail
          go_meet
          refine ⟨kM, kL, kF, rfl, rfl, rfl, rfl, rfl, ⟨?_, ?_, ?_, ?_⟩, ⟨?_, ?_⟩, ⟨?_, ?_, ?_⟩, below_seq HB0.out HSa.out⟩
          · rw [cell_of_row wa kM _ _ 24 (0, 0) HNM.out]; rfl
          · rw [cell_of_row wa kM _ _ 24 (0, 0) HNM.out]; rfl
          · rw [cell_of_row wa kM _ _ 24 (0, 0) HNM.out]; rfl
          · rw [cell_of_row wa kM _ _ 24 (0, 0) HNM.out]; rfl
          · rw [cell_of_row wa kL _ _ 27 (0, 0) HNL.out]; rfl
          · rw [cell_of_row wa kL _ _ 27 (0, 0) HNL.out]; rfl
          · rw [cell_of_row wa kF _ _ 29 (0, 0) HNF.out]; rfl
          · rw [cell_of_row wa kF _ _ 29 (0, 0) HNF.out]; rfl
          · rw [cell_of_row wa kF _ _ 29 (0, 0) HNF.out]; rfl
      · skip
        rw [if_pos (by rfl)]
        go_simp
        refine hK.out _ _ (Below.alloc HSa.out HSa.out.size _) (fun hS2 => ?_)
        clear hK K
        try simp only [Act.put, List.setIfInBounds_toArray, List.set_cons_zero, List.set_cons_succ]
        generalize hwb : World.alloc _ _ = wb at hS2 ⊢
        have HYF : Hid (wb.heap[wa.heap.size]? = some (.cells #[Value.int IntKind.i64 0, Value.int IntKind.i64 0, Value.int IntKind.i64 0] 29)) := Lib.hid (by rw [← hwb]; exact Go.heap_alloc_new _ _)
        have hgeF : w0.heap.size ≤ wa.heap.size := HSa.out.size
        replace HSa := Lib.hid hS2
        generalize wa.heap.size = kF at *
        clear hS2 hwb
        rename World => wa
        refine wpAnyH_ready (rs := [10, 11]) (by kernel_rfl) (by simp) ?_
        refine AllReadyH.cons rfl (fun K hK => ?_) (AllReadyH.cons rfl (fun K hK => ?_) AllReadyH.nil)
        · skip
          rw [if_pos (by rfl)]
          go_simp
          refine hK.out _ _ (Below.alloc HSa.out HSa.out.size _) (fun hS2 => ?_)
          clear hK K
          try simp only [Act.put, List.setIfInBounds_toArray, List.set_cons_zero, List.set_cons_succ]
          generalize hwb : World.alloc _ _ = wb at hS2 ⊢
          have HYM : Hid (wb.heap[wa.heap.size]? = some (.cells #[Value.int IntKind.i64 0, Value.int IntKind.i64 0, Value.slice none 0 0, Value.slice none 0 0] 24)) := Lib.hid (by rw [← hwb]; exact Go.heap_alloc_new _ _)
          have hneFM : kF ≠ wa.heap.size := Nat.ne_of_lt (Array.getElem?_eq_some_iff.1 HYF.out).1
          replace HYF : Hid (wb.heap[kF]? = some (.cells #[Value.int IntKind.i64 0, Value.int IntKind.i64 0, Value.int IntKind.i64 0] 29)) := Lib.hid (by rw [← hwb]; exact (heap_alloc_old _ _ (Array.getElem?_eq_some_iff.1 HYF.out).1).trans HYF.out)
          have hgeM : w0.heap.size ≤ wa.heap.size := HSa.out.size
          replace HSa := Lib.hid hS2
          generalize wa.heap.size = kM at *
          clear hS2 hwb
          rename World => wa
          refine wpAnyH_ready (rs := [11]) (by kernel_rfl) (by simp) ?_
          refine AllReadyH.cons rfl (fun K hK => ?_) AllReadyH.nil
          rw [if_pos (by rfl)]
          go_simp
          refine hK.out _ _ (Below.alloc HSa.out HSa.out.size _) (fun hS2 => ?_)
          clear hK K
          try simp only [Act.put, List.setIfInBounds_toArray, List.set_cons_zero, List.set_cons_succ]
          generalize hwb : World.alloc _ _ = wb at hS2 ⊢
          have HYL : Hid (wb.heap[wa.heap.size]? = some (.cells #[Value.slice none 0 0, Value.int IntKind.i64 0] 27)) := Lib.hid (by rw [← hwb]; exact Go.heap_alloc_new _ _)
          have hneFL : kF ≠ wa.heap.size := Nat.ne_of_lt (Array.getElem?_eq_some_iff.1 HYF.out).1
          replace HYF : Hid (wb.heap[kF]? = some (.cells #[Value.int IntKind.i64 0, Value.int IntKind.i64 0, Value.int IntKind.i64 0] 29)) := Lib.hid (by rw [← hwb]; exact (heap_alloc_old _ _ (Array.getElem?_eq_some_iff.1 HYF.out).1).trans HYF.out)
          have hneML : kM ≠ wa.heap.size := Nat.ne_of_lt (Array.getElem?_eq_some_iff.1 HYM.out).1
          replace HYM : Hid (wb.heap[kM]? = some (.cells #[Value.int IntKind.i64 0, Value.int IntKind.i64 0, Value.slice none 0 0, Value.slice none 0 0] 24)) := Lib.hid (by rw [← hwb]; exact (heap_alloc_old _ _ (Array.getElem?_eq_some_iff.1 HYM.out).1).trans HYM.out)
          have hgeL : w0.heap.size ≤ wa.heap.size := HSa.out.size
          replace HSa := Lib.hid hS2
          generalize wa.heap.size = kL at *
          clear hS2 hwb
          rename World => wa
          refine wpAnyH_ready (rs := [13]) (by kernel_rfl) (by simp) ?_
          refine AllReadyH.cons rfl (fun K hK => ?_) AllReadyH.nil
          rw [if_pos (by rfl)]
          refine wp_store_row 24 _ _ rfl kM #[Value.int IntKind.i64 x.I, Value.int IntKind.i64 x.S, Value.slice A x.nx.length c, Value.slice B x.out.length d] rfl rfl 24 _ HYM.out (by kernel_rfl) rfl (by simp [Value.oneCell']) ?_
          refine hK.out _ _ (belowRow HSa.out hgeM _) (fun hS2 => ?_)
          clear hK K
          change wpAnyH _ _ _ _ _ _ _ (Act.put _ none _) _
          try simp only [Act.put]
          generalize hwb : World.setRow _ _ _ = wb at hS2 ⊢
          have HNM : Hid (wb.heap[kM]? = some (.cells #[Value.int IntKind.i64 x.I, Value.int IntKind.i64 x.S, Value.slice A x.nx.length c, Value.slice B x.out.length d] 24)) := Lib.hid (by rw [← hwb]; exact setRow_heap _ _ _ _ _ _ HYM.out)
          replace HYL : Hid (wb.heap[kL]? = some (.cells #[Value.slice none 0 0, Value.int IntKind.i64 0] 27)) := Lib.hid (by rw [← hwb]; exact (setRow_other _ _ _ _ (by omega)).trans HYL.out)
          replace HYF : Hid (wb.heap[kF]? = some (.cells #[Value.int IntKind.i64 0, Value.int IntKind.i64 0, Value.int IntKind.i64 0] 29)) := Lib.hid (by rw [← hwb]; exact (setRow_other _ _ _ _ (by omega)).trans HYF.out)
          replace HSa := Lib.hid hS2
          clear hS2 hwb
          rename World => wa
          refine wpAnyH_ready (rs := [14]) (by kernel_rfl) (by simp) ?_
          refine AllReadyH.cons rfl (fun K hK => ?_) AllReadyH.nil
          rw [if_pos (by rfl)]
          refine wp_store_row 27 _ _ rfl kL #[Value.slice C x.step.length e, Value.int IntKind.i64 x.rs] rfl rfl 27 _ HYL.out (by kernel_rfl) rfl (by simp [Value.oneCell']) ?_
          refine hK.out _ _ (belowRow HSa.out hgeL _) (fun hS2 => ?_)
          clear hK K
          change wpAnyH _ _ _ _ _ _ _ (Act.put _ none _) _
          try simp only [Act.put]
          generalize hwb : World.setRow _ _ _ = wb at hS2 ⊢
          have HNL : Hid (wb.heap[kL]? = some (.cells #[Value.slice C x.step.length e, Value.int IntKind.i64 x.rs] 27)) := Lib.hid (by rw [← hwb]; exact setRow_heap _ _ _ _ _ _ HYL.out)
          replace HYF : Hid (wb.heap[kF]? = some (.cells #[Value.int IntKind.i64 0, Value.int IntKind.i64 0, Value.int IntKind.i64 0] 29)) := Lib.hid (by rw [← hwb]; exact (setRow_other _ _ _ _ (by omega)).trans HYF.out)
          replace HNM : Hid (wb.heap[kM]? = some (.cells #[Value.int IntKind.i64 x.I, Value.int IntKind.i64 x.S, Value.slice A x.nx.length c, Value.slice B x.out.length d] 24)) := Lib.hid (by rw [← hwb]; exact (setRow_other _ _ _ _ (by omega)).trans HNM.out)
          replace HSa := Lib.hid hS2
          clear hS2 hwb
          rename World => wa
          refine wpAnyH_ready (rs := [15]) (by kernel_rfl) (by simp) ?_
          refine AllReadyH.cons rfl (fun K hK => ?_) AllReadyH.nil
          rw [if_pos (by rfl)]
          refine wp_store_row 29 _ _ rfl kF #[Value.int IntKind.i64 x.lost, Value.int IntKind.i64 x.wrong, Value.int IntKind.i64 x.crash] rfl rfl 29 _ HYF.out (by kernel_rfl) rfl (by simp [Value.oneCell']) ?_
          refine hK.out _ _ (belowRow HSa.out hgeF _) (fun hS2 => ?_)
          clear hK K
          change wpAnyH _ _ _ _ _ _ _ (Act.put _ none _) _
          try simp only [Act.put]
          generalize hwb : World.setRow _ _ _ = wb at hS2 ⊢
          have HNF : Hid (wb.heap[kF]? = some (.cells #[Value.int IntKind.i64 x.lost, Value.int IntKind.i64 x.wrong, Value.int IntKind.i64 x.crash] 29)) := Lib.hid (by rw [← hwb]; exact setRow_heap _ _ _ _ _ _ HYF.out)
          replace HNM : Hid (wb.heap[kM]? = some (.cells #[Value.int IntKind.i64 x.I, Value.int IntKind.i64 x.S, Value.slice A x.nx.length c, Value.slice B x.out.length d] 24)) := Lib.hid (by rw [← hwb]; exact (setRow_other _ _ _ _ (by omega)).trans HNM.out)
          replace HNL : Hid (wb.heap[kL]? = some (.cells #[Value.slice C x.step.length e, Value.int IntKind.i64 x.rs] 27)) := Lib.hid (by rw [← hwb]; exact (setRow_other _ _ _ _ (by omega)).trans HNL.out)
          replace HSa := Lib.hid hS2
          clear hS2 hwb
          rename World => wa
          refine takeH (i := 16) (d := some 6) (v := ?_) rfl rfl (by kernel_rfl) (by kernel_rfl) (by kernel_rfl) (fun _ _ _ h => h) (Or.inl ⟨by rfl, ?_⟩) HSa.out ?_
          rotate_left
          · intro wx hSx; clear hSx; first | (go_simp; done) | (go_simp; with_reducible rfl)
          simp only [Act.put, List.setIfInBounds_toArray, List.set_cons_zero, List.set_cons_succ]
          refine takeH (i := 17) (d := some 7) (v := ?_) rfl rfl (by kernel_rfl) (by kernel_rfl) (by kernel_rfl) (fun _ _ _ h => h) (Or.inl ⟨by rfl, ?_⟩) HSa.out ?_
          rotate_left
          · intro wx hSx; clear hSx; first | (go_simp; done) | (go_simp; with_reducible rfl)
          simp only [Act.put, List.setIfInBounds_toArray, List.set_cons_zero, List.set_cons_succ]
          refine wpAnyH_done (by kernel_rfl) ?_ _
          go_wp2_with fail
          go_meet
          refine ⟨kM, kL, kF, rfl, rfl, rfl, rfl, rfl, ⟨?_, ?_, ?_, ?_⟩, ⟨?_, ?_⟩, ⟨?_, ?_, ?_⟩, below_seq HB0.out HSa.out⟩
          · rw [cell_of_row wa kM _ _ 24 (0, 0) HNM.out]; rfl
          · rw [cell_of_row wa kM _ _ 24 (0, 0) HNM.out]; rfl
          · rw [cell_of_row wa kM _ _ 24 (0, 0) HNM.out]; rfl
          · rw [cell_of_row wa kM _ _ 24 (0, 0) HNM.out]; rfl
          · rw [cell_of_row wa kL _ _ 27 (0, 0) HNL.out]; rfl
          · rw [cell_of_row wa kL _ _ 27 (0, 0) HNL.out]; rfl
          · rw [cell_of_row wa kF _ _ 29 (0, 0) HNF.out]; rfl
          · rw [cell_of_row wa kF _ _ 29 (0, 0) HNF.out]; rfl
          · rw [cell_of_row wa kF _ _ 29 (0, 0) HNF.out]; rfl
        · skip
          rw [if_pos (by rfl)]
          go_simp
          refine hK.out _ _ (Below.alloc HSa.out HSa.out.size _) (fun hS2 => ?_)
          clear hK K
          try simp only [Act.put, List.setIfInBounds_toArray, List.set_cons_zero, List.set_cons_succ]
          generalize hwb : World.alloc _ _ = wb at hS2 ⊢
          have HYL : Hid (wb.heap[wa.heap.size]? = some (.cells #[Value.slice none 0 0, Value.int IntKind.i64 0] 27)) := Lib.hid (by rw [← hwb]; exact Go.heap_alloc_new _ _)
          have hneFL : kF ≠ wa.heap.size := Nat.ne_of_lt (Array.getElem?_eq_some_iff.1 HYF.out).1
          replace HYF : Hid (wb.heap[kF]? = some (.cells #[Value.int IntKind.i64 0, Value.int IntKind.i64 0, Value.int IntKind.i64 0] 29)) := Lib.hid (by rw [← hwb]; exact (heap_alloc_old _ _ (Array.getElem?_eq_some_iff.1 HYF.out).1).trans HYF.out)
          have hgeL : w0.heap.size ≤ wa.heap.size := HSa.out.size
          replace HSa := Lib.hid hS2
          generalize wa.heap.size = kL at *
          clear hS2 hwb
          rename World => wa
          refine wpAnyH_ready (rs := [10]) (by kernel_rfl) (by simp) ?_
          refine AllReadyH.cons rfl (fun K hK => ?_) AllReadyH.nil
          rw [if_pos (by rfl)]
          go_simp
          refine hK.out _ _ (Below.alloc HSa.out HSa.out.size _) (fun hS2 => ?_)
          clear hK K
          try simp only [Act.put, List.setIfInBounds_toArray, List.set_cons_zero, List.set_cons_succ]
          generalize hwb : World.alloc _ _ = wb at hS2 ⊢
          have HYM : Hid (wb.heap[wa.heap.size]? = some (.cells #[Value.int IntKind.i64 0, Value.int IntKind.i64 0, Value.slice none 0 0, Value.slice none 0 0] 24)) := Lib.hid (by rw [← hwb]; exact Go.heap_alloc_new _ _)
          have hneFM : kF ≠ wa.heap.size := Nat.ne_of_lt (Array.getElem?_eq_some_iff.1 HYF.out).1
          replace HYF : Hid (wb.heap[kF]? = some (.cells #[Value.int IntKind.i64 0, Value.int IntKind.i64 0, Value.int IntKind.i64 0] 29)) := Lib.hid (by rw [← hwb]; exact (heap_alloc_old _ _ (Array.getElem?_eq_some_iff.1 HYF.out).1).trans HYF.out)
          have hneLM : kL ≠ wa.heap.size := Nat.ne_of_lt (Array.getElem?_eq_some_iff.1 HYL.out).1
          replace HYL : Hid (wb.heap[kL]? = some (.cells #[Value.slice none 0 0, Value.int IntKind.i64 0] 27)) := Lib.hid (by rw [← hwb]; exact (heap_alloc_old _ _ (Array.getElem?_eq_some_iff.1 HYL.out).1).trans HYL.out)
          have hgeM : w0.heap.size ≤ wa.heap.size := HSa.out.size
          replace HSa := Lib.hid hS2
          generalize wa.heap.size = kM at *
          clear hS2 hwb
          rename World => wa
          refine wpAnyH_ready (rs := [13]) (by kernel_rfl) (by simp) ?_
          refine AllReadyH.cons rfl (fun K hK => ?_) AllReadyH.nil
          rw [if_pos (by rfl)]
          refine wp_store_row 24 _ _ rfl kM #[Value.int IntKind.i64 x.I, Value.int IntKind.i64 x.S, Value.slice A x.nx.length c, Value.slice B x.out.length d] rfl rfl 24 _ HYM.out (by kernel_rfl) rfl (by simp [Value.oneCell']) ?_
          refine hK.out _ _ (belowRow HSa.out hgeM _) (fun hS2 => ?_)
          clear hK K
          change wpAnyH _ _ _ _ _ _ _ (Act.put _ none _) _
          try simp only [Act.put]
          generalize hwb : World.setRow _ _ _ = wb at hS2 ⊢
          have HNM : Hid (wb.heap[kM]? = some (.cells #[Value.int IntKind.i64 x.I, Value.int IntKind.i64 x.S, Value.slice A x.nx.length c, Value.slice B x.out.length d] 24)) := Lib.hid (by rw [← hwb]; exact setRow_heap _ _ _ _ _ _ HYM.out)
          replace HYL : Hid (wb.heap[kL]? = some (.cells #[Value.slice none 0 0, Value.int IntKind.i64 0] 27)) := Lib.hid (by rw [← hwb]; exact (setRow_other _ _ _ _ (by omega)).trans HYL.out)
          replace HYF : Hid (wb.heap[kF]? = some (.cells #[Value.int IntKind.i64 0, Value.int IntKind.i64 0, Value.int IntKind.i64 0] 29)) := Lib.hid (by rw [← hwb]; exact (setRow_other _ _ _ _ (by omega)).trans HYF.out)
          replace HSa := Lib.hid hS2
          clear hS2 hwb
          rename World => wa
          refine wpAnyH_ready (rs := [14]) (by kernel_rfl) (by simp) ?_
          refine AllReadyH.cons rfl (fun K hK => ?_) AllReadyH.nil
          rw [if_pos (by rfl)]
          refine wp_store_row 27 _ _ rfl kL #[Value.slice C x.step.length e, Value.int IntKind.i64 x.rs] rfl rfl 27 _ HYL.out (by kernel_rfl) rfl (by simp [Value.oneCell']) ?_
          refine hK.out _ _ (belowRow HSa.out hgeL _) (fun hS2 => ?_)
          clear hK K
          change wpAnyH _ _ _ _ _ _ _ (Act.put _ none _) _
          try simp only [Act.put]
          generalize hwb : World.setRow _ _ _ = wb at hS2 ⊢
          have HNL : Hid (wb.heap[kL]? = some (.cells #[Value.slice C x.step.length e, Value.int IntKind.i64 x.rs] 27)) := Lib.hid (by rw [← hwb]; exact setRow_heap _ _ _ _ _ _ HYL.out)
          replace HYF : Hid (wb.heap[kF]? = some (.cells #[Value.int IntKind.i64 0, Value.int IntKind.i64 0, Value.int IntKind.i64 0] 29)) := Lib.hid (by rw [← hwb]; exact (setRow_other _ _ _ _ (by omega)).trans HYF.out)
          replace HNM : Hid (wb.heap[kM]? = some (.cells #[Value.int IntKind.i64 x.I, Value.int IntKind.i64 x.S, Value.slice A x.nx.length c, Value.slice B x.out.length d] 24)) := Lib.hid (by rw [← hwb]; exact (setRow_other _ _ _ _ (by omega)).trans HNM.out)
          replace HSa := Lib.hid hS2
          clear hS2 hwb
          rename World => wa
          refine wpAnyH_ready (rs := [15]) (by kernel_rfl) (by simp) ?_
          refine AllReadyH.cons rfl (fun K hK => ?_) AllReadyH.nil
          rw [if_pos (by rfl)]
          refine wp_store_row 29 _ _ rfl kF #[Value.int IntKind.i64 x.lost, Value.int IntKind.i64 x.wrong, Value.int IntKind.i64 x.crash] rfl rfl 29 _ HYF.out (by kernel_rfl) rfl (by simp [Value.oneCell']) ?_
          refine hK.out _ _ (belowRow HSa.out hgeF _) (fun hS2 => ?_)
          clear hK K
          change wpAnyH _ _ _ _ _ _ _ (Act.put _ none _) _
          try simp only [Act.put]
          generalize hwb : World.setRow _ _ _ = wb at hS2 ⊢
          have HNF : Hid (wb.heap[kF]? = some (.cells #[Value.int IntKind.i64 x.lost, Value.int IntKind.i64 x.wrong, Value.int IntKind.i64 x.crash] 29)) := Lib.hid (by rw [← hwb]; exact setRow_heap _ _ _ _ _ _ HYF.out)
          replace HNM : Hid (wb.heap[kM]? = some (.cells #[Value.int IntKind.i64 x.I, Value.int IntKind.i64 x.S, Value.slice A x.nx.length c, Value.slice B x.out.length d] 24)) := Lib.hid (by rw [← hwb]; exact (setRow_other _ _ _ _ (by omega)).trans HNM.out)
          replace HNL : Hid (wb.heap[kL]? = some (.cells #[Value.slice C x.step.length e, Value.int IntKind.i64 x.rs] 27)) := Lib.hid (by rw [← hwb]; exact (setRow_other _ _ _ _ (by omega)).trans HNL.out)
          replace HSa := Lib.hid hS2
          clear hS2 hwb
          rename World => wa
          refine takeH (i := 16) (d := some 6) (v := ?_) rfl rfl (by kernel_rfl) (by kernel_rfl) (by kernel_rfl) (fun _ _ _ h => h) (Or.inl ⟨by rfl, ?_⟩) HSa.out ?_
          rotate_left
          · intro wx hSx; clear hSx; first | (go_simp; done) | (go_simp; with_reducible rfl)
          simp only [Act.put, List.setIfInBounds_toArray, List.set_cons_zero, List.set_cons_succ]
          refine takeH (i := 17) (d := some 7) (v := ?_) rfl rfl (by kernel_rfl) (by kernel_rfl) (by kernel_rfl) (fun _ _ _ h => h) (Or.inl ⟨by rfl, ?_⟩) HSa.out ?_
          rotate_left
          · intro wx hSx; clear hSx; first | (go_simp; done) | (go_simp; with_reducible rfl)
          simp only [Act.put, List.setIfInBounds_toArray, List.set_cons_zero, List.set_cons_succ]
          refine wpAnyH_done (by kernel_rfl) ?_ _
          go_wp2_with fail
          go_meet
          refine ⟨kM, kL, kF, rfl, rfl, rfl, rfl, rfl, ⟨?_, ?_, ?_, ?_⟩, ⟨?_, ?_⟩, ⟨?_, ?_, ?_⟩, below_seq HB0.out HSa.out⟩
          · rw [cell_of_row wa kM _ _ 24 (0, 0) HNM.out]; rfl
          · rw [cell_of_row wa kM _ _ 24 (0, 0) HNM.out]; rfl
          · rw [cell_of_row wa kM _ _ 24 (0, 0) HNM.out]; rfl
          · rw [cell_of_row wa kM _ _ 24 (0, 0) HNM.out]; rfl
          · rw [cell_of_row wa kL _ _ 27 (0, 0) HNL.out]; rfl
          · rw [cell_of_row wa kL _ _ 27 (0, 0) HNL.out]; rfl
          · rw [cell_of_row wa kF _ _ 29 (0, 0) HNF.out]; rfl
          · rw [cell_of_row wa kF _ _ 29 (0, 0) HNF.out]; rfl
          · rw [cell_of_row wa kF _ _ 29 (0, 0) HNF.out]; rfl
  case rest =>
    clear k0 k1 k2 k3 k4 k5 k6 k7 k8 k9 k10 HB0
    obtain ⟨kM, kL, kF, rfl, rfl, rfl, rfl, rfl, hbm, hbl, hbf, hbel⟩ := hcut
    have BMx := Lib.hid hbm
    have BLx := Lib.hid hbl
    have BFx := Lib.hid hbf
    obtain ⟨m0, m1, m2, m3⟩ := hbm
    obtain ⟨l0, l1⟩ := hbl
    obtain ⟨n0, n1, n2⟩ := hbf
    clear w0
    go_wp2_with fail
    clear m0 m1 m2 m3 l0 l1 n0 n1 n2
    refine (made_t x A B C c d e wc (HM.out.keep hbel)).mono ?_
    rintro r w1 ⟨⟨y, b, A1, c1, B1, d1, C1, e1, rfl, hm, hy⟩, hb⟩
    have MY := Lib.hid hm
    have HY := Lib.hid hy
    clear hm hy
    replace BMx := Lib.hid (BMx.out.keep hb)
    replace BLx := Lib.hid (BLx.out.keep hb)
    replace BFx := Lib.hid (BFx.out.kept hb)
    replace hbel := below_seq hbel hb
    clear hb
    go_upto_region 3 with fail
    generalize hwb : World.alloc _ _ = w2
    have hb : Below w1.heap.size w1 w2 := by rw [← hwb]; exact (Below.refl _ _).alloc (Nat.le_refl _) _
    have RY : Hid (RowD w2 w1.heap.size 32 y A1 c1 B1 d1 C1 e1) := Lib.hid (by rw [← hwb]; exact Go.heap_alloc_new _ _)
    clear hwb
    replace BMx := Lib.hid (BMx.out.keep hb)
    replace BLx := Lib.hid (BLx.out.keep hb)
    replace BFx := Lib.hid (BFx.out.kept hb)
    replace MY := Lib.hid (MY.out.keep hb)
    replace hbel := below_seq hbel hb
    clear hb
    generalize w1.heap.size = k8 at *
    cases b with
    | false =>
      go_wp2_with fail
      refine (awake_t _).mono ?_
      rintro r wz ⟨rfl, hb⟩
      go_wp2_with fail
      go_ret
      exact ⟨rfl, below_seq hbel hb⟩
    | true =>
    obtain ⟨rfl, hvalid⟩ := HY.out rfl
    clear HY
    by_cases hl1 : (60 : Int) < (ws.length : Int)
    · skip
      go_wp2_with fail
      refine (awake_t _).mono ?_
      rintro r wz ⟨rfl, hb⟩
      go_wp2_with fail
      go_ret
      exact ⟨rfl, below_seq hbel hb⟩
    have OK := Lib.hid (okD_of hvalid)
    have HVd := Lib.hid hvalid
    clear hvalid
    go_upto_region 5 with fail
    have hl1n : ws.length ≤ 60 := by omega
    clear hl1
    have m0 := BMx.out.c0
    go_wp2_with fail
    clear m0
    refine (check_r x.I G g ws w2 (HW.out.keep hbel)).mono ?_
    rintro r w3 ⟨rfl, hw3⟩
    subst hw3
    by_cases hc : checkE x.I ws = 0
    rotate_left
    · have hne1 : (checkE x.I ws != 0) = true := ne0 hc
      clear hc
      go_wp2_with fail
      refine (awake_t _).mono ?_
      rintro r wz ⟨rfl, hb⟩
      go_wp2_with fail
      go_ret
      exact ⟨rfl, below_seq hbel hb⟩
    have HC := Lib.hid hc
    rw [hc]
    clear hc
    have HPr : Hid (Pre (newX x)) := Lib.hid ⟨OK.out, HS.out.1, HS.out.2⟩
    obtain ⟨hre, hrx, hinv⟩ := EInv.start HPr.out ws
    have hqr := qr_4 (x := newX x) (w := ws) HVd.out HC.out hre
    rw [hrx] at hqr
    have HLA := Lib.hid (fun h1 h2 => lost_all (x := x) (ws := ws) HPr.out h1 HC.out h2)
    have HRe := Lib.hid (And.intro hre hrx)
    have QR := Lib.hid hqr
    have HI := Lib.hid hinv
    clear hqr hinv hre hrx
    generalize hRR : runQ (nextR (newX x)) [] ws = RR at *
    clear hRR
    go_upto_region 7 with fail
    go_wp2_with (refine wpList_load_row rfl 32 _ rfl k8 rfl 32 _ (0, 0) _ RY.out Try.underlying32 rfl (by kernel_rfl) ?_)
    refine (Query_p (newX x) ws A1 B1 C1 G c1 d1 e1 g w2 MY.out (HW.out.keep hbel) HS.out.1 HS.out.2).mono ?_
    rintro r w4 ⟨⟨A2, c2, B2, d2, C2, e2, F2, f2, rfl, hm, ho⟩, hb⟩
    rw [QR.out.1, QR.out.2.1, QR.out.2.2]
    rw [QR.out.2.1] at hm
    rw [QR.out.2.2] at ho
    have M2 := Lib.hid hm
    have O2 := Lib.hid ho
    clear hm ho
    replace BMx := Lib.hid (BMx.out.keep hb)
    replace BLx := Lib.hid (BLx.out.keep hb)
    replace BFx := Lib.hid (BFx.out.kept hb)
    replace MY := Lib.hid (MY.out.keep hb)
    replace RY := Lib.hid (RY.out.keep RY.out.lt hb)
    replace hbel := below_seq hbel hb
    clear hb
    go_upto_region 8 with fail
    generalize hwb : World.alloc _ _ = w5
    have hb : Below w4.heap.size w4 w5 := by rw [← hwb]; exact (Below.refl _ _).alloc (Nat.le_refl _) _
    have R2 : Hid (RowD w5 w4.heap.size 32 RR.1 A2 c2 B2 d2 C2 e2) := Lib.hid (by rw [← hwb]; exact Go.heap_alloc_new _ _)
    clear hwb
    replace BMx := Lib.hid (BMx.out.keep hb)
    replace BLx := Lib.hid (BLx.out.keep hb)
    replace BFx := Lib.hid (BFx.out.kept hb)
    replace MY := Lib.hid (MY.out.keep hb)
    replace RY := Lib.hid (RY.out.keep RY.out.lt hb)
    replace M2 := Lib.hid (M2.out.keep hb)
    replace O2 := Lib.hid (O2.out.keep hb)
    replace hbel := below_seq hbel hb
    clear hb
    generalize w4.heap.size = k10 at *
    go_upto_region 8 with fail
    go_wp2_with (refine wpList_load_row rfl 32 _ rfl k8 rfl 32 _ (0, 0) _ RY.out Try.underlying32 rfl (by kernel_rfl) ?_)
    refine (Query_p (newX x) ws A1 B1 C1 G c1 d1 e1 g w5 MY.out (HW.out.keep hbel) HS.out.1 HS.out.2).mono ?_
    rintro r w6 ⟨⟨A3, c3, B3, d3, C3, e3, F3, f3, rfl, hm, ho⟩, hb⟩
    rw [QR.out.1, QR.out.2.1, QR.out.2.2]
    rw [QR.out.2.1] at hm
    rw [QR.out.2.2] at ho
    have M3 := Lib.hid hm
    have O3 := Lib.hid ho
    clear hm ho
    replace BMx := Lib.hid (BMx.out.keep hb)
    replace BLx := Lib.hid (BLx.out.keep hb)
    replace BFx := Lib.hid (BFx.out.kept hb)
    replace MY := Lib.hid (MY.out.keep hb)
    replace RY := Lib.hid (RY.out.keep RY.out.lt hb)
    replace R2 := Lib.hid (R2.out.keep R2.out.lt hb)
    replace M2 := Lib.hid (M2.out.keep hb)
    replace O2 := Lib.hid (O2.out.keep hb)
    replace hbel := below_seq hbel hb
    clear hb
    go_upto_region 9 with fail
    generalize hwb : World.alloc _ _ = w7
    have hb : Below w6.heap.size w6 w7 := by rw [← hwb]; exact (Below.refl _ _).alloc (Nat.le_refl _) _
    have R3 : Hid (RowD w7 w6.heap.size 32 RR.1 A3 c3 B3 d3 C3 e3) := Lib.hid (by rw [← hwb]; exact Go.heap_alloc_new _ _)
    clear hwb
    replace BMx := Lib.hid (BMx.out.keep hb)
    replace BLx := Lib.hid (BLx.out.keep hb)
    replace BFx := Lib.hid (BFx.out.kept hb)
    replace MY := Lib.hid (MY.out.keep hb)
    replace RY := Lib.hid (RY.out.keep RY.out.lt hb)
    replace R2 := Lib.hid (R2.out.keep R2.out.lt hb)
    replace M2 := Lib.hid (M2.out.keep hb)
    replace O2 := Lib.hid (O2.out.keep hb)
    replace M3 := Lib.hid (M3.out.keep hb)
    replace O3 := Lib.hid (O3.out.keep hb)
    replace hbel := below_seq hbel hb
    clear hb
    generalize w6.heap.size = k13 at *
    obtain ⟨Ry, Ro, Re⟩ := RR
    go_cut [100] (fun v wx => v = .bool false ∧ Below w7.heap.size w7 wx)
    case first =>
      as_aux_lemma =>
        have n0 := BFx.out.c0
        go_wp2_with (first | (refine wpList_load_row rfl 32 _ rfl k10 rfl 32 _ (0, 0) _ R2.out Try.underlying32 rfl (by kernel_rfl) ?_) | (refine wpList_load_row rfl 32 _ rfl k13 rfl 32 _ (0, 0) _ R3.out Try.underlying32 rfl (by kernel_rfl) ?_))
        refine (dev_yes Ry A2 B2 C2 A3 B3 C3 c2 d2 e2 c3 d3 e3 _ M2.out M3.out).mono ?_
        rintro r w8 ⟨rfl, hb⟩
        replace n0 := keep_cell hb n0
        have HB8 := Lib.hid hb
        clear hb
        dsimp only
        go_wp2_with fail
        refine (same_yes (xs := Ro) rfl (O2.out.keep HB8.out) (O3.out.keep HB8.out)).mono ?_
        rintro r w9 ⟨rfl, m, rfl⟩
        have hb9 := Lib.hid (below_drewN' HB8.out m)
        dsimp only
        have q1 : (Re != Re) = false := by simp
        by_cases hL : x.lost = 10000
        · by_cases hN : (0 : Int) < (ws.length : Int)
          · have h14 : Re = 14 := HLA.out hL (by omega)
            rw [hL] at n0
            clear hL
            subst h14
            go_wp2_with fail
            go_meet
            exact ⟨rfl, hb9.out⟩
          · rw [hL] at n0
            clear hL
            go_wp2_with fail
            go_meet
            exact ⟨rfl, hb9.out⟩
        · have hLf : (x.lost == 10000) = false := by simpa using hL
          go_wp2_with fail
          go_meet
          exact ⟨rfl, hb9.out⟩
    case rest =>
    rename_i wcp
    obtain ⟨W, hW⟩ : ∃ W, W = wc := ⟨_, rfl⟩
    obtain ⟨rfl, hb⟩ := hcut
    rw [← hW] at hb ⊢
    clear hW
    replace BMx := Lib.hid (BMx.out.keep hb)
    replace BLx := Lib.hid (BLx.out.keep hb)
    replace BFx := Lib.hid (BFx.out.kept hb)
    replace MY := Lib.hid (MY.out.keep hb)
    replace RY := Lib.hid (RY.out.keep RY.out.lt hb)
    replace R2 := Lib.hid (R2.out.keep R2.out.lt hb)
    replace M2 := Lib.hid (M2.out.keep hb)
    replace O2 := Lib.hid (O2.out.keep hb)
    replace hbel := below_seq hbel hb
    clear hb
    clear R3 M3 O3 HLA QR
    have HBW := Lib.hid hbel
    clear hbel
    go_upto_region 11 with fail
    go_wp2_with (refine wpList_load_row rfl 32 _ rfl k8 rfl 32 _ (0, 0) _ RY.out Try.underlying32 rfl (by kernel_rfl) ?_)
    refine (Reset_q (newX x) A1 B1 C1 c1 d1 e1 W MY.out).mono ?_
    rintro r v4 ⟨⟨A4, c4, B4, d4, C4, e4, rfl, hd⟩, hb⟩
    rw [(rs_of HVd.out).1, (rs_of HVd.out).2, HRe.out.1, HRe.out.2]
    rw [(rs_of HVd.out).2, HRe.out.2] at hd
    go_upto_region 12 with fail
    generalize hwb : World.alloc _ _ = v5
    have RC : Hid (RowD v5 v4.heap.size 32 (nextR (newX x)) A4 c4 B4 d4 C4 e4) := Lib.hid (by rw [← hwb]; exact Go.heap_alloc_new _ _)
    have SC : Hid (RdS v5 (fun g => g = v4.heap.size) A4 B4 C4 (nextR (newX x))) := Lib.hid (by rw [← hwb]; exact start_safe MY.out ⟨rfl, rfl, rfl⟩ hb hd)
    have hb5 : Below W.heap.size W v5 := by rw [← hwb]; exact hb.alloc hb.size _
    have hge : W.heap.size ≤ v4.heap.size := hb.size
    clear hwb hd hb
    generalize v4.heap.size = k16 at *
    have c5 : v5.cell? ⟨k16, 5, none⟩ = some (.bool true) := RC.out.box.c5
    go_upto_region 14 with fail
    clear c5
    have m1 := (BMx.out.keep hb5).c1
    have l1 := (BLx.out.keep hb5).l1
    go_quiet (fail)
    clear m1 l1
    generalize hwb : World.drewN _ _ = v6
    have hb6 : Below v5.heap.size v5 v6 := by rw [← hwb]; exact below_drewN' (Below.refl _ _) _
    clear hwb
    have HEI : Hid (EI W v6 k16 (Ry, Ro, Re) (nextR (newX x)) (nextR (newX x)) ws [] A4 c4 B4 d4 C4 e4 none 0) := Lib.hid ⟨RC.out.keep RC.out.lt hb6, (SC.out.keep hb6).weak (fun g hg => PW_none hg), World.ownsRow_nil _ _ _ _, below_seq hb5 hb6, HI.out⟩
    clear RC SC hb5 hb6 HI
    go_wp2_with fail
    go_loopw [18, 19, 20, 21] (fun s t l u wr => ∃ (acc : List Int) (y : Dv) (A : Option Addr) (c : Nat) (B : Option Addr) (d : Nat) (C : Option Addr) (e : Nat) (G2 : Option Addr) (g2 : Nat), s = .int .i64 y.st ∧ t = .int .i64 y.time ∧ l = .slice G2 acc.length g2 ∧ u = .int .i64 (acc.length : Int) ∧ acc.length ≤ ws.length ∧ Hid (EI W wr k16 (Ry, Ro, Re) (nextR (newX x)) y ws acc A c B d C e G2 g2)) (fun _ _ _ u _ => ws.length - (intOf u).toNat)
    case atStart => exact ⟨[], nextR (newX x), A4, c4, B4, d4, C4, e4, none, 0, rfl, by show _ = Value.int .i64 (0 + x.rs); rw [Int.zero_add], rfl, rfl, Nat.zero_le _, HEI⟩
    case round =>
      clear HEI
      obtain ⟨acc, y, Ay, cy, By, dy, Cy, ey, G2, g2, rfl, rfl, rfl, rfl, hj, HQ⟩ := hrel
      by_cases hjl : acc.length < ws.length
      rotate_left
      · as_aux_lemma =>
          have hfin := HQ.out.inv.fin (by omega)
          obtain ⟨rfl, rfl, rfl⟩ : Ry = y ∧ Ro = acc ∧ Re = 0 := by simpa using hfin
          clear hfin
          have R2r := Lib.hid (R2.out.keep R2.out.lt HQ.out.bel)
          obtain ⟨p0, p1, p2, p3, p4, p5, p6, p7, p8, p9, p10, p11, p12, p13, p14⟩ := R2r.out.box
          obtain ⟨t0, t1, t2, t3, t4, t5, t6, t7, t8, t9, t10, t11, t12, t13, t14⟩ := HQ.out.row.box
          go_wp2_with fail
          clear p0 p1 p2 p3 p4 p5 p6 p7 p8 p9 p10 p11 p12 p13 p14 t0 t1 t2 t3 t4 t5 t6 t7 t8 t9 t10 t11 t12 t13 t14
          refine (dev_yes Ry A2 B2 C2 Ay By Cy c2 d2 e2 cy dy ey wr (M2.out.keep HQ.out.bel) HQ.out.safe.rd).mono ?_
          rintro r w8 ⟨rfl, hb⟩
          have HB8 := Lib.hid hb
          clear hb
          go_wp2_with fail
          refine (same_yes (xs := Ro) rfl (O2.out.keep (below_seq HQ.out.bel HB8.out)) ((own_rd HQ.out.own (by omega)).2.keep HB8.out)).mono ?_
          rintro r w9 ⟨rfl, m, rfl⟩
          have hbel := below_drewN' (below_seq (below_seq HBW.out HQ.out.bel) HB8.out) m
          go_wp2_with fail
          refine (awake_t _).mono ?_
          rintro r wz ⟨rfl, hb⟩
          go_wp2_with fail
          go_ret
          exact ⟨rfl, below_seq hbel hb⟩
      obtain ⟨ad, a, rfl, ha, hca⟩ := (HW.out.keep (below_seq HBW.out HQ.out.bel)).at_ hjl
      have HA := Lib.hid ha
      have hr0 := (check_all HC.out).2.2.2 _ hjl
      rw [ha] at hr0
      clear ha
      have HKy := Lib.hid HQ.out.inv.2.1
      have HPy := Lib.hid HQ.out.inv.1
      have HRa : Hid (0 ≤ a ∧ a < y.I) := Lib.hid (by rw [(kS HKy.out).2.2.1]; exact hr0)
      have hst0 := HQ.out.inv.2.2.1
      have hti0 := HQ.out.inv.2.2.2.1
      have HSt : Hid (y.steps ≤ 100 ∧ y.time ≤ 1000000000) := Lib.hid ⟨by omega, by omega⟩
      have HS0 := Lib.hid hst0
      have tm0 := HPy.out.ok.time0
      have tm1 := HSt.out.2
      clear hst0 hti0
      by_cases hrd : y.rdy = false
      · as_aux_lemma =>
          have hcr := HQ.out.inv.2.2.2.2.2 hrd
          have hcrash : 0 < x.crash := hcr.1
          have hfin := hcr.2.1 hjl
          obtain ⟨rfl, rfl, rfl⟩ : Ry = y ∧ Ro = [] ∧ Re = 14 := by simpa using hfin
          have c5 := HQ.out.row.box.c5
          rw [hrd] at c5
          clear hcr hfin hrd hca
          go_upto_region 20 with fail
          clear c5
          have R2r := Lib.hid (R2.out.keep R2.out.lt HQ.out.bel)
          obtain ⟨p0, p1, p2, p3, p4, p5, p6, p7, p8, p9, p10, p11, p12, p13, p14⟩ := R2r.out.box
          obtain ⟨t0, t1, t2, t3, t4, t5, t6, t7, t8, t9, t10, t11, t12, t13, t14⟩ := HQ.out.row.box
          have nF := (BFx.out.kept HQ.out.bel).c2
          go_wp2_with fail
          clear p0 p1 p2 p3 p4 p5 p6 p7 p8 p9 p10 p11 p12 p13 p14 t0 t1 t2 t3 t4 t5 t6 t7 t8 t9 t10 t11 t12 t13 t14
          refine (dev_yes (Ry) A2 B2 C2 Ay By Cy c2 d2 e2 cy dy ey wr (M2.out.keep HQ.out.bel) HQ.out.safe.rd).mono ?_
          rintro r w8 ⟨rfl, hb⟩
          replace nF := keep_cell hb nF
          have hbel := below_seq (below_seq HBW.out HQ.out.bel) hb
          clear hb
          go_wp2_with fail
          refine (awake_t _).mono ?_
          rintro r wz ⟨rfl, hb⟩
          go_wp2_with fail
          go_ret
          exact ⟨rfl, below_seq hbel hb⟩
      replace hrd : y.rdy = true := by simpa using hrd
      have HRd := Lib.hid hrd
      have c5 := HQ.out.row.box.c5
      rw [hrd] at c5
      clear hrd
      have hca0 := Lib.hid hca
      have RA0 := Lib.hid HQ.out.row
      have SA0 := Lib.hid HQ.out.safe
      have HSd := Lib.hid (And.intro HPy.out.s0 HPy.out.s1)
      have HPS : Hid (∀ g, PW k16 G2 acc.length g2 g → g < wr.heap.size) := Lib.hid (fun g hg => by
        rcases hg with hg | hg
        · rw [hg]; exact HQ.out.row.lt
        · exact (HQ.out.own.lt g hg.symm).2)
      go_upto_region 21 with fail
      clear hca c5
      go_cut [22, 23, 24] (fun p u t wx => R13 wr (PW k16 G2 acc.length g2) (spX y a) (.int .i64 (spO y a)) (.int .i64 (spE y a)) p u t wx)
      case first =>
        as_aux_lemma =>
          refine wp_region_any (by kernel_rfl) ?_
          change wpAny _ _ _ _ _ _ _ (World.drew _)
          generalize hwa : World.drew _ = wa
          have hbx : Below wr.heap.size wr wa := by rw [← hwa]; exact (Below.refl _ _).drew
          have RX := Lib.hid (RA0.out.keep RA0.out.lt hbx)
          have hca := keep_cell hbx hca0.out
          clear hwa
          refine take1 (i := 1) (d := some 148) (v := ?_) rfl rfl (by kernel_rfl) (by kernel_rfl) (by kernel_rfl) (fun _ _ _ h => h) (Or.inl ⟨by rfl, ?_⟩) ?_
          rotate_left
          · intro w; first | (go_simp; done) | (go_simp; with_reducible rfl)
          simp only [Act.put, List.setIfInBounds_toArray, List.set_cons_zero, List.set_cons_succ]
          refine take1 (i := 2) (d := some 149) (v := ?_) rfl rfl (by kernel_rfl) (by kernel_rfl) (by kernel_rfl) (fun _ _ _ h => h) (Or.inl ⟨by rfl, ?_⟩) ?_
          rotate_left
          · intro w; first | (go_simp; done) | (go_simp; with_reducible rfl)
          simp only [Act.put, List.setIfInBounds_toArray, List.set_cons_zero, List.set_cons_succ]
          refine take1 (i := 3) (d := some 150) (v := ?_) rfl rfl (by kernel_rfl) (by kernel_rfl) (by kernel_rfl) (fun _ _ _ h => h) (Or.inl ⟨by rfl, ?_⟩) ?_
          rotate_left
          · intro w; first | (go_simp; done) | (go_simp; with_reducible rfl)
          simp only [Act.put, List.setIfInBounds_toArray, List.set_cons_zero, List.set_cons_succ]
          refine wpAny_ready (rs := [0, 4, 10]) (by kernel_rfl) (by simp) ?_
          refine AllReady.cons rfl (fun K hK => ?_) (AllReady.cons rfl (fun K hK => ?_) (AllReady.cons rfl (fun K hK => ?_) AllReady.nil))
          · skip
            rw [if_pos (by rfl)]
            refine wp_load_row 32 _ rfl k16 rfl 32 _ (0, 0) _ RX.out Try.underlying32 rfl (by kernel_rfl) ?_
            refine hK _ _ ?_
            clear hK K
            change wpAny _ _ _ _ _ _ (Act.put _ (some 147) _) _
            try simp only [Act.put, List.setIfInBounds_toArray, List.set_cons_zero, List.set_cons_succ]
            refine wpAny_ready (rs := [4, 10]) (by kernel_rfl) (by simp) ?_
            refine AllReady.cons rfl (fun K hK => ?_) (AllReady.cons rfl (fun K hK => ?_) AllReady.nil)
            · skip
              try go_simp
              refine hK _ _ ?_
              clear hK K
              try simp only [Act.put, List.setIfInBounds_toArray, List.set_cons_zero, List.set_cons_succ]
              refine wpAny_ready (rs := [5, 10]) (by kernel_rfl) (by simp) ?_
              refine AllReady.cons rfl (fun K hK => ?_) (AllReady.cons rfl (fun K hK => ?_) AllReady.nil)
              · skip
                rw [if_pos (by rfl)]
                try go_simp
                refine (Step_q y a Ay By Cy cy dy ey wa ((SA0.out.keep hbx).rd) HSd.out.1 HSd.out.2).mono ?_
                rintro r w4 ⟨⟨A3, c3, B3, d3, C3, e3, rfl, hd⟩, hb⟩
                refine hK _ _ ?_
                clear hK K
                have SN := Lib.hid (safe_of (SA0.out.keep hbx) (Same3.spX y a) hb (fun g hg => Nat.lt_of_lt_of_le (HPS.out g hg) hbx.size) hd)
                replace RX := Lib.hid (RX.out.keep RX.out.lt hb)
                replace hca := keep_cell hb hca
                replace hbx := below_seq hbx hb
                clear hb hd
                rename World => wa
                try simp only [Act.put, List.setIfInBounds_toArray, List.set_cons_zero, List.set_cons_succ]
                refine take1 (i := 6) (d := some 146) (v := ?_) rfl rfl (by kernel_rfl) (by kernel_rfl) (by kernel_rfl) (fun _ _ _ h => h) (Or.inl ⟨by rfl, ?_⟩) ?_
                rotate_left
                · intro w; first | (go_simp; done) | (go_simp; with_reducible rfl)
                simp only [Act.put, List.setIfInBounds_toArray, List.set_cons_zero, List.set_cons_succ]
                refine take1 (i := 7) (d := some 153) (v := ?_) rfl rfl (by kernel_rfl) (by kernel_rfl) (by kernel_rfl) (fun _ _ _ h => h) (Or.inl ⟨by rfl, ?_⟩) ?_
                rotate_left
                · intro w; first | (go_simp; done) | (go_simp; with_reducible rfl)
                simp only [Act.put, List.setIfInBounds_toArray, List.set_cons_zero, List.set_cons_succ]
                refine take1 (i := 8) (d := some 154) (v := ?_) rfl rfl (by kernel_rfl) (by kernel_rfl) (by kernel_rfl) (fun _ _ _ h => h) (Or.inl ⟨by rfl, ?_⟩) ?_
                rotate_left
                · intro w; first | (go_simp; done) | (go_simp; with_reducible rfl)
                simp only [Act.put, List.setIfInBounds_toArray, List.set_cons_zero, List.set_cons_succ]
                refine take1 (i := 9) (d := some 155) (v := ?_) rfl rfl (by kernel_rfl) (by kernel_rfl) (by kernel_rfl) (fun _ _ _ h => h) (Or.inl ⟨by rfl, ?_⟩) ?_
                rotate_left
                · intro w; first | (go_simp; done) | (go_simp; with_reducible rfl)
                simp only [Act.put, List.setIfInBounds_toArray, List.set_cons_zero, List.set_cons_succ]
                refine wpAny_ready (rs := [10]) (by kernel_rfl) (by simp) ?_
                refine AllReady.cons rfl (fun K hK => ?_) AllReady.nil
                rw [if_pos (by rfl)]
                go_simp
                refine hK _ _ ?_
                clear hK K
                try simp only [Act.put, List.setIfInBounds_toArray, List.set_cons_zero, List.set_cons_succ]
                have hge := hbx.size
                generalize hwb : World.alloc _ _ = wb
                replace SN := Lib.hid (show RdS wb (fun g => (PW k16 G2 acc.length g2) g ∨ g = wa.heap.size) A3 B3 C3 (spX y a) by rw [← hwb]; exact SN.out.fresh _)
                have HZ : Hid (RowD wb wa.heap.size 32 zeroD none 0 none 0 none 0) := Lib.hid (by rw [← hwb]; exact Go.heap_alloc_new _ _)
                have hb : Below wa.heap.size wa wb := by rw [← hwb]; exact (Below.refl _ _).alloc (Nat.le_refl _) _
                replace RX := Lib.hid (RX.out.keep RX.out.lt hb)
                replace hca := keep_cell hb hca
                replace hbx := below_seq hbx hb
                clear hb
                generalize wa.heap.size = kn at *
                clear hwb
                rename World => wa
                try simp only [Act.put, List.setIfInBounds_toArray, List.set_cons_zero, List.set_cons_succ]
                refine wpAny_ready (rs := [11]) (by kernel_rfl) (by simp) ?_
                refine AllReady.cons rfl (fun K hK => ?_) AllReady.nil
                rw [if_pos (by rfl)]
                refine wp_store_row 32 _ _ rfl kn _ rfl rfl 32 _ HZ.out (by kernel_rfl) rfl (dc_one (spX y a) _ _ _ _ _ _) ?_
                refine hK _ _ ?_
                clear hK K
                change wpAny _ _ _ _ _ _ (Act.put _ none _) _
                generalize hwb : World.setRow _ _ _ = wb
                have HN : Hid (RowD wb kn 32 (spX y a) A3 c3 B3 d3 C3 e3) := Lib.hid (by rw [← hwb]; exact RowD.put HZ.out (spX y a) A3 c3 B3 d3 C3 e3)
                have HSN := Lib.hid (show RdS wb (PW k16 G2 acc.length g2) A3 B3 C3 (spX y a) by rw [← hwb]; exact ((SN.out).row (.inr rfl) _).weak (fun g hg => .inl hg))
                have HBN := Lib.hid (show Below wr.heap.size wr wb by rw [← hwb]; exact belowRow hbx hge _)
                clear hwb
                try simp only [Act.put]
                refine take1 (i := 12) (d := some 23) (v := ?_) rfl rfl (by kernel_rfl) (by kernel_rfl) (by kernel_rfl) (fun _ _ _ h => h) (Or.inl ⟨by rfl, ?_⟩) ?_
                rotate_left
                · intro w; first | (go_simp; done) | (go_simp; with_reducible rfl)
                simp only [Act.put, List.setIfInBounds_toArray, List.set_cons_zero, List.set_cons_succ]
                refine take1 (i := 13) (d := some 24) (v := ?_) rfl rfl (by kernel_rfl) (by kernel_rfl) (by kernel_rfl) (fun _ _ _ h => h) (Or.inl ⟨by rfl, ?_⟩) ?_
                rotate_left
                · intro w; first | (go_simp; done) | (go_simp; with_reducible rfl)
                simp only [Act.put, List.setIfInBounds_toArray, List.set_cons_zero, List.set_cons_succ]
                refine wpAny_done (by kernel_rfl) ?_ _
                go_wp2_with fail
                go_meet
                exact ⟨kn, A3, c3, B3, d3, C3, e3, rfl, rfl, rfl, HN.out, HSN.out, HBN.out, hge⟩
              · skip
                rw [if_pos (by rfl)]
                go_simp
                refine hK _ _ ?_
                clear hK K
                try simp only [Act.put, List.setIfInBounds_toArray, List.set_cons_zero, List.set_cons_succ]
                have hge := hbx.size
                generalize hwb : World.alloc _ _ = wb
                have HZ : Hid (RowD wb wa.heap.size 32 zeroD none 0 none 0 none 0) := Lib.hid (by rw [← hwb]; exact Go.heap_alloc_new _ _)
                have hb : Below wa.heap.size wa wb := by rw [← hwb]; exact (Below.refl _ _).alloc (Nat.le_refl _) _
                replace RX := Lib.hid (RX.out.keep RX.out.lt hb)
                replace hca := keep_cell hb hca
                replace hbx := below_seq hbx hb
                clear hb
                generalize wa.heap.size = kn at *
                clear hwb
                rename World => wa
                try simp only [Act.put, List.setIfInBounds_toArray, List.set_cons_zero, List.set_cons_succ]
                refine wpAny_ready (rs := [5]) (by kernel_rfl) (by simp) ?_
                refine AllReady.cons rfl (fun K hK => ?_) AllReady.nil
                rw [if_pos (by rfl)]
                try go_simp
                refine (Step_q y a Ay By Cy cy dy ey wa ((SA0.out.keep hbx).rd) HSd.out.1 HSd.out.2).mono ?_
                rintro r w4 ⟨⟨A3, c3, B3, d3, C3, e3, rfl, hd⟩, hb⟩
                refine hK _ _ ?_
                clear hK K
                have SN := Lib.hid (safe13 SA0.out (Same3.spX y a) hbx hb HPS.out hge HZ.out.lt hd)
                replace RX := Lib.hid (RX.out.keep RX.out.lt hb)
                replace hca := keep_cell hb hca
                replace HZ := Lib.hid (HZ.out.keep HZ.out.lt hb)
                replace hbx := below_seq hbx hb
                clear hb hd
                rename World => wa
                try simp only [Act.put, List.setIfInBounds_toArray, List.set_cons_zero, List.set_cons_succ]
                refine take1 (i := 6) (d := some 146) (v := ?_) rfl rfl (by kernel_rfl) (by kernel_rfl) (by kernel_rfl) (fun _ _ _ h => h) (Or.inl ⟨by rfl, ?_⟩) ?_
                rotate_left
                · intro w; first | (go_simp; done) | (go_simp; with_reducible rfl)
                simp only [Act.put, List.setIfInBounds_toArray, List.set_cons_zero, List.set_cons_succ]
                refine take1 (i := 7) (d := some 153) (v := ?_) rfl rfl (by kernel_rfl) (by kernel_rfl) (by kernel_rfl) (fun _ _ _ h => h) (Or.inl ⟨by rfl, ?_⟩) ?_
                rotate_left
                · intro w; first | (go_simp; done) | (go_simp; with_reducible rfl)
                simp only [Act.put, List.setIfInBounds_toArray, List.set_cons_zero, List.set_cons_succ]
                refine take1 (i := 8) (d := some 154) (v := ?_) rfl rfl (by kernel_rfl) (by kernel_rfl) (by kernel_rfl) (fun _ _ _ h => h) (Or.inl ⟨by rfl, ?_⟩) ?_
                rotate_left
                · intro w; first | (go_simp; done) | (go_simp; with_reducible rfl)
                simp only [Act.put, List.setIfInBounds_toArray, List.set_cons_zero, List.set_cons_succ]
                refine take1 (i := 9) (d := some 155) (v := ?_) rfl rfl (by kernel_rfl) (by kernel_rfl) (by kernel_rfl) (fun _ _ _ h => h) (Or.inl ⟨by rfl, ?_⟩) ?_
                rotate_left
                · intro w; first | (go_simp; done) | (go_simp; with_reducible rfl)
                simp only [Act.put, List.setIfInBounds_toArray, List.set_cons_zero, List.set_cons_succ]
                refine wpAny_ready (rs := [11]) (by kernel_rfl) (by simp) ?_
                refine AllReady.cons rfl (fun K hK => ?_) AllReady.nil
                rw [if_pos (by rfl)]
                refine wp_store_row 32 _ _ rfl kn _ rfl rfl 32 _ HZ.out (by kernel_rfl) rfl (dc_one (spX y a) _ _ _ _ _ _) ?_
                refine hK _ _ ?_
                clear hK K
                change wpAny _ _ _ _ _ _ (Act.put _ none _) _
                generalize hwb : World.setRow _ _ _ = wb
                have HN : Hid (RowD wb kn 32 (spX y a) A3 c3 B3 d3 C3 e3) := Lib.hid (by rw [← hwb]; exact RowD.put HZ.out (spX y a) A3 c3 B3 d3 C3 e3)
                have HSN := Lib.hid (show RdS wb (PW k16 G2 acc.length g2) A3 B3 C3 (spX y a) by rw [← hwb]; exact ((SN.out).row (.inr rfl) _).weak (fun g hg => .inl hg))
                have HBN := Lib.hid (show Below wr.heap.size wr wb by rw [← hwb]; exact belowRow hbx hge _)
                clear hwb
                try simp only [Act.put]
                refine take1 (i := 12) (d := some 23) (v := ?_) rfl rfl (by kernel_rfl) (by kernel_rfl) (by kernel_rfl) (fun _ _ _ h => h) (Or.inl ⟨by rfl, ?_⟩) ?_
                rotate_left
                · intro w; first | (go_simp; done) | (go_simp; with_reducible rfl)
                simp only [Act.put, List.setIfInBounds_toArray, List.set_cons_zero, List.set_cons_succ]
                refine take1 (i := 13) (d := some 24) (v := ?_) rfl rfl (by kernel_rfl) (by kernel_rfl) (by kernel_rfl) (fun _ _ _ h => h) (Or.inl ⟨by rfl, ?_⟩) ?_
                rotate_left
                · intro w; first | (go_simp; done) | (go_simp; with_reducible rfl)
                simp only [Act.put, List.setIfInBounds_toArray, List.set_cons_zero, List.set_cons_succ]
                refine wpAny_done (by kernel_rfl) ?_ _
                go_wp2_with fail
                go_meet
                exact ⟨kn, A3, c3, B3, d3, C3, e3, rfl, rfl, rfl, HN.out, HSN.out, HBN.out, hge⟩
            · skip
              rw [if_pos (by rfl)]
              go_simp
              refine hK _ _ ?_
              clear hK K
              try simp only [Act.put, List.setIfInBounds_toArray, List.set_cons_zero, List.set_cons_succ]
              have hge := hbx.size
              generalize hwb : World.alloc _ _ = wb
              have HZ : Hid (RowD wb wa.heap.size 32 zeroD none 0 none 0 none 0) := Lib.hid (by rw [← hwb]; exact Go.heap_alloc_new _ _)
              have hb : Below wa.heap.size wa wb := by rw [← hwb]; exact (Below.refl _ _).alloc (Nat.le_refl _) _
              replace RX := Lib.hid (RX.out.keep RX.out.lt hb)
              replace hca := keep_cell hb hca
              replace hbx := below_seq hbx hb
              clear hb
              generalize wa.heap.size = kn at *
              clear hwb
              rename World => wa
              try simp only [Act.put, List.setIfInBounds_toArray, List.set_cons_zero, List.set_cons_succ]
              refine wpAny_ready (rs := [4]) (by kernel_rfl) (by simp) ?_
              refine AllReady.cons rfl (fun K hK => ?_) AllReady.nil
              try go_simp
              refine hK _ _ ?_
              clear hK K
              try simp only [Act.put, List.setIfInBounds_toArray, List.set_cons_zero, List.set_cons_succ]
              refine wpAny_ready (rs := [5]) (by kernel_rfl) (by simp) ?_
              refine AllReady.cons rfl (fun K hK => ?_) AllReady.nil
              rw [if_pos (by rfl)]
              try go_simp
              refine (Step_q y a Ay By Cy cy dy ey wa ((SA0.out.keep hbx).rd) HSd.out.1 HSd.out.2).mono ?_
              rintro r w4 ⟨⟨A3, c3, B3, d3, C3, e3, rfl, hd⟩, hb⟩
              refine hK _ _ ?_
              clear hK K
              have SN := Lib.hid (safe13 SA0.out (Same3.spX y a) hbx hb HPS.out hge HZ.out.lt hd)
              replace RX := Lib.hid (RX.out.keep RX.out.lt hb)
              replace hca := keep_cell hb hca
              replace HZ := Lib.hid (HZ.out.keep HZ.out.lt hb)
              replace hbx := below_seq hbx hb
              clear hb hd
              rename World => wa
              try simp only [Act.put, List.setIfInBounds_toArray, List.set_cons_zero, List.set_cons_succ]
              refine take1 (i := 6) (d := some 146) (v := ?_) rfl rfl (by kernel_rfl) (by kernel_rfl) (by kernel_rfl) (fun _ _ _ h => h) (Or.inl ⟨by rfl, ?_⟩) ?_
              rotate_left
              · intro w; first | (go_simp; done) | (go_simp; with_reducible rfl)
              simp only [Act.put, List.setIfInBounds_toArray, List.set_cons_zero, List.set_cons_succ]
              refine take1 (i := 7) (d := some 153) (v := ?_) rfl rfl (by kernel_rfl) (by kernel_rfl) (by kernel_rfl) (fun _ _ _ h => h) (Or.inl ⟨by rfl, ?_⟩) ?_
              rotate_left
              · intro w; first | (go_simp; done) | (go_simp; with_reducible rfl)
              simp only [Act.put, List.setIfInBounds_toArray, List.set_cons_zero, List.set_cons_succ]
              refine take1 (i := 8) (d := some 154) (v := ?_) rfl rfl (by kernel_rfl) (by kernel_rfl) (by kernel_rfl) (fun _ _ _ h => h) (Or.inl ⟨by rfl, ?_⟩) ?_
              rotate_left
              · intro w; first | (go_simp; done) | (go_simp; with_reducible rfl)
              simp only [Act.put, List.setIfInBounds_toArray, List.set_cons_zero, List.set_cons_succ]
              refine take1 (i := 9) (d := some 155) (v := ?_) rfl rfl (by kernel_rfl) (by kernel_rfl) (by kernel_rfl) (fun _ _ _ h => h) (Or.inl ⟨by rfl, ?_⟩) ?_
              rotate_left
              · intro w; first | (go_simp; done) | (go_simp; with_reducible rfl)
              simp only [Act.put, List.setIfInBounds_toArray, List.set_cons_zero, List.set_cons_succ]
              refine wpAny_ready (rs := [11]) (by kernel_rfl) (by simp) ?_
              refine AllReady.cons rfl (fun K hK => ?_) AllReady.nil
              rw [if_pos (by rfl)]
              refine wp_store_row 32 _ _ rfl kn _ rfl rfl 32 _ HZ.out (by kernel_rfl) rfl (dc_one (spX y a) _ _ _ _ _ _) ?_
              refine hK _ _ ?_
              clear hK K
              change wpAny _ _ _ _ _ _ (Act.put _ none _) _
              generalize hwb : World.setRow _ _ _ = wb
              have HN : Hid (RowD wb kn 32 (spX y a) A3 c3 B3 d3 C3 e3) := Lib.hid (by rw [← hwb]; exact RowD.put HZ.out (spX y a) A3 c3 B3 d3 C3 e3)
              have HSN := Lib.hid (show RdS wb (PW k16 G2 acc.length g2) A3 B3 C3 (spX y a) by rw [← hwb]; exact ((SN.out).row (.inr rfl) _).weak (fun g hg => .inl hg))
              have HBN := Lib.hid (show Below wr.heap.size wr wb by rw [← hwb]; exact belowRow hbx hge _)
              clear hwb
              try simp only [Act.put]
              refine take1 (i := 12) (d := some 23) (v := ?_) rfl rfl (by kernel_rfl) (by kernel_rfl) (by kernel_rfl) (fun _ _ _ h => h) (Or.inl ⟨by rfl, ?_⟩) ?_
              rotate_left
              · intro w; first | (go_simp; done) | (go_simp; with_reducible rfl)
              simp only [Act.put, List.setIfInBounds_toArray, List.set_cons_zero, List.set_cons_succ]
              refine take1 (i := 13) (d := some 24) (v := ?_) rfl rfl (by kernel_rfl) (by kernel_rfl) (by kernel_rfl) (fun _ _ _ h => h) (Or.inl ⟨by rfl, ?_⟩) ?_
              rotate_left
              · intro w; first | (go_simp; done) | (go_simp; with_reducible rfl)
              simp only [Act.put, List.setIfInBounds_toArray, List.set_cons_zero, List.set_cons_succ]
              refine wpAny_done (by kernel_rfl) ?_ _
              go_wp2_with fail
              go_meet
              exact ⟨kn, A3, c3, B3, d3, C3, e3, rfl, rfl, rfl, HN.out, HSN.out, HBN.out, hge⟩
          · skip
            try go_simp
            refine hK _ _ ?_
            clear hK K
            try simp only [Act.put, List.setIfInBounds_toArray, List.set_cons_zero, List.set_cons_succ]
            refine wpAny_ready (rs := [0, 10]) (by kernel_rfl) (by simp) ?_
            refine AllReady.cons rfl (fun K hK => ?_) (AllReady.cons rfl (fun K hK => ?_) AllReady.nil)
            · skip
              rw [if_pos (by rfl)]
              refine wp_load_row 32 _ rfl k16 rfl 32 _ (0, 0) _ RX.out Try.underlying32 rfl (by kernel_rfl) ?_
              refine hK _ _ ?_
              clear hK K
              change wpAny _ _ _ _ _ _ (Act.put _ (some 147) _) _
              try simp only [Act.put, List.setIfInBounds_toArray, List.set_cons_zero, List.set_cons_succ]
              refine wpAny_ready (rs := [5, 10]) (by kernel_rfl) (by simp) ?_
              refine AllReady.cons rfl (fun K hK => ?_) (AllReady.cons rfl (fun K hK => ?_) AllReady.nil)
              · skip
                rw [if_pos (by rfl)]
                try go_simp
                refine (Step_q y a Ay By Cy cy dy ey wa ((SA0.out.keep hbx).rd) HSd.out.1 HSd.out.2).mono ?_
                rintro r w4 ⟨⟨A3, c3, B3, d3, C3, e3, rfl, hd⟩, hb⟩
                refine hK _ _ ?_
                clear hK K
                have SN := Lib.hid (safe_of (SA0.out.keep hbx) (Same3.spX y a) hb (fun g hg => Nat.lt_of_lt_of_le (HPS.out g hg) hbx.size) hd)
                replace RX := Lib.hid (RX.out.keep RX.out.lt hb)
                replace hca := keep_cell hb hca
                replace hbx := below_seq hbx hb
                clear hb hd
                rename World => wa
                try simp only [Act.put, List.setIfInBounds_toArray, List.set_cons_zero, List.set_cons_succ]
                refine take1 (i := 6) (d := some 146) (v := ?_) rfl rfl (by kernel_rfl) (by kernel_rfl) (by kernel_rfl) (fun _ _ _ h => h) (Or.inl ⟨by rfl, ?_⟩) ?_
                rotate_left
                · intro w; first | (go_simp; done) | (go_simp; with_reducible rfl)
                simp only [Act.put, List.setIfInBounds_toArray, List.set_cons_zero, List.set_cons_succ]
                refine take1 (i := 7) (d := some 153) (v := ?_) rfl rfl (by kernel_rfl) (by kernel_rfl) (by kernel_rfl) (fun _ _ _ h => h) (Or.inl ⟨by rfl, ?_⟩) ?_
                rotate_left
                · intro w; first | (go_simp; done) | (go_simp; with_reducible rfl)
                simp only [Act.put, List.setIfInBounds_toArray, List.set_cons_zero, List.set_cons_succ]
                refine take1 (i := 8) (d := some 154) (v := ?_) rfl rfl (by kernel_rfl) (by kernel_rfl) (by kernel_rfl) (fun _ _ _ h => h) (Or.inl ⟨by rfl, ?_⟩) ?_
                rotate_left
                · intro w; first | (go_simp; done) | (go_simp; with_reducible rfl)
                simp only [Act.put, List.setIfInBounds_toArray, List.set_cons_zero, List.set_cons_succ]
                refine take1 (i := 9) (d := some 155) (v := ?_) rfl rfl (by kernel_rfl) (by kernel_rfl) (by kernel_rfl) (fun _ _ _ h => h) (Or.inl ⟨by rfl, ?_⟩) ?_
                rotate_left
                · intro w; first | (go_simp; done) | (go_simp; with_reducible rfl)
                simp only [Act.put, List.setIfInBounds_toArray, List.set_cons_zero, List.set_cons_succ]
                refine wpAny_ready (rs := [10]) (by kernel_rfl) (by simp) ?_
                refine AllReady.cons rfl (fun K hK => ?_) AllReady.nil
                rw [if_pos (by rfl)]
                go_simp
                refine hK _ _ ?_
                clear hK K
                try simp only [Act.put, List.setIfInBounds_toArray, List.set_cons_zero, List.set_cons_succ]
                have hge := hbx.size
                generalize hwb : World.alloc _ _ = wb
                replace SN := Lib.hid (show RdS wb (fun g => (PW k16 G2 acc.length g2) g ∨ g = wa.heap.size) A3 B3 C3 (spX y a) by rw [← hwb]; exact SN.out.fresh _)
                have HZ : Hid (RowD wb wa.heap.size 32 zeroD none 0 none 0 none 0) := Lib.hid (by rw [← hwb]; exact Go.heap_alloc_new _ _)
                have hb : Below wa.heap.size wa wb := by rw [← hwb]; exact (Below.refl _ _).alloc (Nat.le_refl _) _
                replace RX := Lib.hid (RX.out.keep RX.out.lt hb)
                replace hca := keep_cell hb hca
                replace hbx := below_seq hbx hb
                clear hb
                generalize wa.heap.size = kn at *
                clear hwb
                rename World => wa
                try simp only [Act.put, List.setIfInBounds_toArray, List.set_cons_zero, List.set_cons_succ]
                refine wpAny_ready (rs := [11]) (by kernel_rfl) (by simp) ?_
                refine AllReady.cons rfl (fun K hK => ?_) AllReady.nil
                rw [if_pos (by rfl)]
                refine wp_store_row 32 _ _ rfl kn _ rfl rfl 32 _ HZ.out (by kernel_rfl) rfl (dc_one (spX y a) _ _ _ _ _ _) ?_
                refine hK _ _ ?_
                clear hK K
                change wpAny _ _ _ _ _ _ (Act.put _ none _) _
                generalize hwb : World.setRow _ _ _ = wb
                have HN : Hid (RowD wb kn 32 (spX y a) A3 c3 B3 d3 C3 e3) := Lib.hid (by rw [← hwb]; exact RowD.put HZ.out (spX y a) A3 c3 B3 d3 C3 e3)
                have HSN := Lib.hid (show RdS wb (PW k16 G2 acc.length g2) A3 B3 C3 (spX y a) by rw [← hwb]; exact ((SN.out).row (.inr rfl) _).weak (fun g hg => .inl hg))
                have HBN := Lib.hid (show Below wr.heap.size wr wb by rw [← hwb]; exact belowRow hbx hge _)
                clear hwb
                try simp only [Act.put]
                refine take1 (i := 12) (d := some 23) (v := ?_) rfl rfl (by kernel_rfl) (by kernel_rfl) (by kernel_rfl) (fun _ _ _ h => h) (Or.inl ⟨by rfl, ?_⟩) ?_
                rotate_left
                · intro w; first | (go_simp; done) | (go_simp; with_reducible rfl)
                simp only [Act.put, List.setIfInBounds_toArray, List.set_cons_zero, List.set_cons_succ]
                refine take1 (i := 13) (d := some 24) (v := ?_) rfl rfl (by kernel_rfl) (by kernel_rfl) (by kernel_rfl) (fun _ _ _ h => h) (Or.inl ⟨by rfl, ?_⟩) ?_
                rotate_left
                · intro w; first | (go_simp; done) | (go_simp; with_reducible rfl)
                simp only [Act.put, List.setIfInBounds_toArray, List.set_cons_zero, List.set_cons_succ]
                refine wpAny_done (by kernel_rfl) ?_ _
                go_wp2_with fail
                go_meet
                exact ⟨kn, A3, c3, B3, d3, C3, e3, rfl, rfl, rfl, HN.out, HSN.out, HBN.out, hge⟩
              · skip
                rw [if_pos (by rfl)]
                go_simp
                refine hK _ _ ?_
                clear hK K
                try simp only [Act.put, List.setIfInBounds_toArray, List.set_cons_zero, List.set_cons_succ]
                have hge := hbx.size
                generalize hwb : World.alloc _ _ = wb
                have HZ : Hid (RowD wb wa.heap.size 32 zeroD none 0 none 0 none 0) := Lib.hid (by rw [← hwb]; exact Go.heap_alloc_new _ _)
                have hb : Below wa.heap.size wa wb := by rw [← hwb]; exact (Below.refl _ _).alloc (Nat.le_refl _) _
                replace RX := Lib.hid (RX.out.keep RX.out.lt hb)
                replace hca := keep_cell hb hca
                replace hbx := below_seq hbx hb
                clear hb
                generalize wa.heap.size = kn at *
                clear hwb
                rename World => wa
                try simp only [Act.put, List.setIfInBounds_toArray, List.set_cons_zero, List.set_cons_succ]
                refine wpAny_ready (rs := [5]) (by kernel_rfl) (by simp) ?_
                refine AllReady.cons rfl (fun K hK => ?_) AllReady.nil
                rw [if_pos (by rfl)]
                try go_simp
                refine (Step_q y a Ay By Cy cy dy ey wa ((SA0.out.keep hbx).rd) HSd.out.1 HSd.out.2).mono ?_
                rintro r w4 ⟨⟨A3, c3, B3, d3, C3, e3, rfl, hd⟩, hb⟩
                refine hK _ _ ?_
                clear hK K
                have SN := Lib.hid (safe13 SA0.out (Same3.spX y a) hbx hb HPS.out hge HZ.out.lt hd)
                replace RX := Lib.hid (RX.out.keep RX.out.lt hb)
                replace hca := keep_cell hb hca
                replace HZ := Lib.hid (HZ.out.keep HZ.out.lt hb)
                replace hbx := below_seq hbx hb
                clear hb hd
                rename World => wa
                try simp only [Act.put, List.setIfInBounds_toArray, List.set_cons_zero, List.set_cons_succ]
                refine take1 (i := 6) (d := some 146) (v := ?_) rfl rfl (by kernel_rfl) (by kernel_rfl) (by kernel_rfl) (fun _ _ _ h => h) (Or.inl ⟨by rfl, ?_⟩) ?_
                rotate_left
                · intro w; first | (go_simp; done) | (go_simp; with_reducible rfl)
                simp only [Act.put, List.setIfInBounds_toArray, List.set_cons_zero, List.set_cons_succ]
                refine take1 (i := 7) (d := some 153) (v := ?_) rfl rfl (by kernel_rfl) (by kernel_rfl) (by kernel_rfl) (fun _ _ _ h => h) (Or.inl ⟨by rfl, ?_⟩) ?_
                rotate_left
                · intro w; first | (go_simp; done) | (go_simp; with_reducible rfl)
                simp only [Act.put, List.setIfInBounds_toArray, List.set_cons_zero, List.set_cons_succ]
                refine take1 (i := 8) (d := some 154) (v := ?_) rfl rfl (by kernel_rfl) (by kernel_rfl) (by kernel_rfl) (fun _ _ _ h => h) (Or.inl ⟨by rfl, ?_⟩) ?_
                rotate_left
                · intro w; first | (go_simp; done) | (go_simp; with_reducible rfl)
                simp only [Act.put, List.setIfInBounds_toArray, List.set_cons_zero, List.set_cons_succ]
                refine take1 (i := 9) (d := some 155) (v := ?_) rfl rfl (by kernel_rfl) (by kernel_rfl) (by kernel_rfl) (fun _ _ _ h => h) (Or.inl ⟨by rfl, ?_⟩) ?_
                rotate_left
                · intro w; first | (go_simp; done) | (go_simp; with_reducible rfl)
                simp only [Act.put, List.setIfInBounds_toArray, List.set_cons_zero, List.set_cons_succ]
                refine wpAny_ready (rs := [11]) (by kernel_rfl) (by simp) ?_
                refine AllReady.cons rfl (fun K hK => ?_) AllReady.nil
                rw [if_pos (by rfl)]
                refine wp_store_row 32 _ _ rfl kn _ rfl rfl 32 _ HZ.out (by kernel_rfl) rfl (dc_one (spX y a) _ _ _ _ _ _) ?_
                refine hK _ _ ?_
                clear hK K
                change wpAny _ _ _ _ _ _ (Act.put _ none _) _
                generalize hwb : World.setRow _ _ _ = wb
                have HN : Hid (RowD wb kn 32 (spX y a) A3 c3 B3 d3 C3 e3) := Lib.hid (by rw [← hwb]; exact RowD.put HZ.out (spX y a) A3 c3 B3 d3 C3 e3)
                have HSN := Lib.hid (show RdS wb (PW k16 G2 acc.length g2) A3 B3 C3 (spX y a) by rw [← hwb]; exact ((SN.out).row (.inr rfl) _).weak (fun g hg => .inl hg))
                have HBN := Lib.hid (show Below wr.heap.size wr wb by rw [← hwb]; exact belowRow hbx hge _)
                clear hwb
                try simp only [Act.put]
                refine take1 (i := 12) (d := some 23) (v := ?_) rfl rfl (by kernel_rfl) (by kernel_rfl) (by kernel_rfl) (fun _ _ _ h => h) (Or.inl ⟨by rfl, ?_⟩) ?_
                rotate_left
                · intro w; first | (go_simp; done) | (go_simp; with_reducible rfl)
                simp only [Act.put, List.setIfInBounds_toArray, List.set_cons_zero, List.set_cons_succ]
                refine take1 (i := 13) (d := some 24) (v := ?_) rfl rfl (by kernel_rfl) (by kernel_rfl) (by kernel_rfl) (fun _ _ _ h => h) (Or.inl ⟨by rfl, ?_⟩) ?_
                rotate_left
                · intro w; first | (go_simp; done) | (go_simp; with_reducible rfl)
                simp only [Act.put, List.setIfInBounds_toArray, List.set_cons_zero, List.set_cons_succ]
                refine wpAny_done (by kernel_rfl) ?_ _
                go_wp2_with fail
                go_meet
                exact ⟨kn, A3, c3, B3, d3, C3, e3, rfl, rfl, rfl, HN.out, HSN.out, HBN.out, hge⟩
            · skip
              rw [if_pos (by rfl)]
              go_simp
              refine hK _ _ ?_
              clear hK K
              try simp only [Act.put, List.setIfInBounds_toArray, List.set_cons_zero, List.set_cons_succ]
              have hge := hbx.size
              generalize hwb : World.alloc _ _ = wb
              have HZ : Hid (RowD wb wa.heap.size 32 zeroD none 0 none 0 none 0) := Lib.hid (by rw [← hwb]; exact Go.heap_alloc_new _ _)
              have hb : Below wa.heap.size wa wb := by rw [← hwb]; exact (Below.refl _ _).alloc (Nat.le_refl _) _
              replace RX := Lib.hid (RX.out.keep RX.out.lt hb)
              replace hca := keep_cell hb hca
              replace hbx := below_seq hbx hb
              clear hb
              generalize wa.heap.size = kn at *
              clear hwb
              rename World => wa
              try simp only [Act.put, List.setIfInBounds_toArray, List.set_cons_zero, List.set_cons_succ]
              refine wpAny_ready (rs := [0]) (by kernel_rfl) (by simp) ?_
              refine AllReady.cons rfl (fun K hK => ?_) AllReady.nil
              rw [if_pos (by rfl)]
              refine wp_load_row 32 _ rfl k16 rfl 32 _ (0, 0) _ RX.out Try.underlying32 rfl (by kernel_rfl) ?_
              refine hK _ _ ?_
              clear hK K
              change wpAny _ _ _ _ _ _ (Act.put _ (some 147) _) _
              try simp only [Act.put, List.setIfInBounds_toArray, List.set_cons_zero, List.set_cons_succ]
              refine wpAny_ready (rs := [5]) (by kernel_rfl) (by simp) ?_
              refine AllReady.cons rfl (fun K hK => ?_) AllReady.nil
              rw [if_pos (by rfl)]
              try go_simp
              refine (Step_q y a Ay By Cy cy dy ey wa ((SA0.out.keep hbx).rd) HSd.out.1 HSd.out.2).mono ?_
              rintro r w4 ⟨⟨A3, c3, B3, d3, C3, e3, rfl, hd⟩, hb⟩
              refine hK _ _ ?_
              clear hK K
              have SN := Lib.hid (safe13 SA0.out (Same3.spX y a) hbx hb HPS.out hge HZ.out.lt hd)
              replace RX := Lib.hid (RX.out.keep RX.out.lt hb)
              replace hca := keep_cell hb hca
              replace HZ := Lib.hid (HZ.out.keep HZ.out.lt hb)
              replace hbx := below_seq hbx hb
              clear hb hd
              rename World => wa
              try simp only [Act.put, List.setIfInBounds_toArray, List.set_cons_zero, List.set_cons_succ]
              refine take1 (i := 6) (d := some 146) (v := ?_) rfl rfl (by kernel_rfl) (by kernel_rfl) (by kernel_rfl) (fun _ _ _ h => h) (Or.inl ⟨by rfl, ?_⟩) ?_
              rotate_left
              · intro w; first | (go_simp; done) | (go_simp; with_reducible rfl)
              simp only [Act.put, List.setIfInBounds_toArray, List.set_cons_zero, List.set_cons_succ]
              refine take1 (i := 7) (d := some 153) (v := ?_) rfl rfl (by kernel_rfl) (by kernel_rfl) (by kernel_rfl) (fun _ _ _ h => h) (Or.inl ⟨by rfl, ?_⟩) ?_
              rotate_left
              · intro w; first | (go_simp; done) | (go_simp; with_reducible rfl)
              simp only [Act.put, List.setIfInBounds_toArray, List.set_cons_zero, List.set_cons_succ]
              refine take1 (i := 8) (d := some 154) (v := ?_) rfl rfl (by kernel_rfl) (by kernel_rfl) (by kernel_rfl) (fun _ _ _ h => h) (Or.inl ⟨by rfl, ?_⟩) ?_
              rotate_left
              · intro w; first | (go_simp; done) | (go_simp; with_reducible rfl)
              simp only [Act.put, List.setIfInBounds_toArray, List.set_cons_zero, List.set_cons_succ]
              refine take1 (i := 9) (d := some 155) (v := ?_) rfl rfl (by kernel_rfl) (by kernel_rfl) (by kernel_rfl) (fun _ _ _ h => h) (Or.inl ⟨by rfl, ?_⟩) ?_
              rotate_left
              · intro w; first | (go_simp; done) | (go_simp; with_reducible rfl)
              simp only [Act.put, List.setIfInBounds_toArray, List.set_cons_zero, List.set_cons_succ]
              refine wpAny_ready (rs := [11]) (by kernel_rfl) (by simp) ?_
              refine AllReady.cons rfl (fun K hK => ?_) AllReady.nil
              rw [if_pos (by rfl)]
              refine wp_store_row 32 _ _ rfl kn _ rfl rfl 32 _ HZ.out (by kernel_rfl) rfl (dc_one (spX y a) _ _ _ _ _ _) ?_
              refine hK _ _ ?_
              clear hK K
              change wpAny _ _ _ _ _ _ (Act.put _ none _) _
              generalize hwb : World.setRow _ _ _ = wb
              have HN : Hid (RowD wb kn 32 (spX y a) A3 c3 B3 d3 C3 e3) := Lib.hid (by rw [← hwb]; exact RowD.put HZ.out (spX y a) A3 c3 B3 d3 C3 e3)
              have HSN := Lib.hid (show RdS wb (PW k16 G2 acc.length g2) A3 B3 C3 (spX y a) by rw [← hwb]; exact ((SN.out).row (.inr rfl) _).weak (fun g hg => .inl hg))
              have HBN := Lib.hid (show Below wr.heap.size wr wb by rw [← hwb]; exact belowRow hbx hge _)
              clear hwb
              try simp only [Act.put]
              refine take1 (i := 12) (d := some 23) (v := ?_) rfl rfl (by kernel_rfl) (by kernel_rfl) (by kernel_rfl) (fun _ _ _ h => h) (Or.inl ⟨by rfl, ?_⟩) ?_
              rotate_left
              · intro w; first | (go_simp; done) | (go_simp; with_reducible rfl)
              simp only [Act.put, List.setIfInBounds_toArray, List.set_cons_zero, List.set_cons_succ]
              refine take1 (i := 13) (d := some 24) (v := ?_) rfl rfl (by kernel_rfl) (by kernel_rfl) (by kernel_rfl) (fun _ _ _ h => h) (Or.inl ⟨by rfl, ?_⟩) ?_
              rotate_left
              · intro w; first | (go_simp; done) | (go_simp; with_reducible rfl)
              simp only [Act.put, List.setIfInBounds_toArray, List.set_cons_zero, List.set_cons_succ]
              refine wpAny_done (by kernel_rfl) ?_ _
              go_wp2_with fail
              go_meet
              exact ⟨kn, A3, c3, B3, d3, C3, e3, rfl, rfl, rfl, HN.out, HSN.out, HBN.out, hge⟩
          · skip
            rw [if_pos (by rfl)]
            go_simp
            refine hK _ _ ?_
            clear hK K
            try simp only [Act.put, List.setIfInBounds_toArray, List.set_cons_zero, List.set_cons_succ]
            have hge := hbx.size
            generalize hwb : World.alloc _ _ = wb
            have HZ : Hid (RowD wb wa.heap.size 32 zeroD none 0 none 0 none 0) := Lib.hid (by rw [← hwb]; exact Go.heap_alloc_new _ _)
            have hb : Below wa.heap.size wa wb := by rw [← hwb]; exact (Below.refl _ _).alloc (Nat.le_refl _) _
            replace RX := Lib.hid (RX.out.keep RX.out.lt hb)
            replace hca := keep_cell hb hca
            replace hbx := below_seq hbx hb
            clear hb
            generalize wa.heap.size = kn at *
            clear hwb
            rename World => wa
            try simp only [Act.put, List.setIfInBounds_toArray, List.set_cons_zero, List.set_cons_succ]
            refine wpAny_ready (rs := [0, 4]) (by kernel_rfl) (by simp) ?_
            refine AllReady.cons rfl (fun K hK => ?_) (AllReady.cons rfl (fun K hK => ?_) AllReady.nil)
            · skip
              rw [if_pos (by rfl)]
              refine wp_load_row 32 _ rfl k16 rfl 32 _ (0, 0) _ RX.out Try.underlying32 rfl (by kernel_rfl) ?_
              refine hK _ _ ?_
              clear hK K
              change wpAny _ _ _ _ _ _ (Act.put _ (some 147) _) _
              try simp only [Act.put, List.setIfInBounds_toArray, List.set_cons_zero, List.set_cons_succ]
              refine wpAny_ready (rs := [4]) (by kernel_rfl) (by simp) ?_
              refine AllReady.cons rfl (fun K hK => ?_) AllReady.nil
              try go_simp
              refine hK _ _ ?_
              clear hK K
              try simp only [Act.put, List.setIfInBounds_toArray, List.set_cons_zero, List.set_cons_succ]
              refine wpAny_ready (rs := [5]) (by kernel_rfl) (by simp) ?_
              refine AllReady.cons rfl (fun K hK => ?_) AllReady.nil
              rw [if_pos (by rfl)]
              try go_simp
              refine (Step_q y a Ay By Cy cy dy ey wa ((SA0.out.keep hbx).rd) HSd.out.1 HSd.out.2).mono ?_
              rintro r w4 ⟨⟨A3, c3, B3, d3, C3, e3, rfl, hd⟩, hb⟩
              refine hK _ _ ?_
              clear hK K
              have SN := Lib.hid (safe13 SA0.out (Same3.spX y a) hbx hb HPS.out hge HZ.out.lt hd)
              replace RX := Lib.hid (RX.out.keep RX.out.lt hb)
              replace hca := keep_cell hb hca
              replace HZ := Lib.hid (HZ.out.keep HZ.out.lt hb)
              replace hbx := below_seq hbx hb
              clear hb hd
              rename World => wa
              try simp only [Act.put, List.setIfInBounds_toArray, List.set_cons_zero, List.set_cons_succ]
              refine take1 (i := 6) (d := some 146) (v := ?_) rfl rfl (by kernel_rfl) (by kernel_rfl) (by kernel_rfl) (fun _ _ _ h => h) (Or.inl ⟨by rfl, ?_⟩) ?_
              rotate_left
              · intro w; first | (go_simp; done) | (go_simp; with_reducible rfl)
              simp only [Act.put, List.setIfInBounds_toArray, List.set_cons_zero, List.set_cons_succ]
              refine take1 (i := 7) (d := some 153) (v := ?_) rfl rfl (by kernel_rfl) (by kernel_rfl) (by kernel_rfl) (fun _ _ _ h => h) (Or.inl ⟨by rfl, ?_⟩) ?_
              rotate_left
              · intro w; first | (go_simp; done) | (go_simp; with_reducible rfl)
              simp only [Act.put, List.setIfInBounds_toArray, List.set_cons_zero, List.set_cons_succ]
              refine take1 (i := 8) (d := some 154) (v := ?_) rfl rfl (by kernel_rfl) (by kernel_rfl) (by kernel_rfl) (fun _ _ _ h => h) (Or.inl ⟨by rfl, ?_⟩) ?_
              rotate_left
              · intro w; first | (go_simp; done) | (go_simp; with_reducible rfl)
              simp only [Act.put, List.setIfInBounds_toArray, List.set_cons_zero, List.set_cons_succ]
              refine take1 (i := 9) (d := some 155) (v := ?_) rfl rfl (by kernel_rfl) (by kernel_rfl) (by kernel_rfl) (fun _ _ _ h => h) (Or.inl ⟨by rfl, ?_⟩) ?_
              rotate_left
              · intro w; first | (go_simp; done) | (go_simp; with_reducible rfl)
              simp only [Act.put, List.setIfInBounds_toArray, List.set_cons_zero, List.set_cons_succ]
              refine wpAny_ready (rs := [11]) (by kernel_rfl) (by simp) ?_
              refine AllReady.cons rfl (fun K hK => ?_) AllReady.nil
              rw [if_pos (by rfl)]
              refine wp_store_row 32 _ _ rfl kn _ rfl rfl 32 _ HZ.out (by kernel_rfl) rfl (dc_one (spX y a) _ _ _ _ _ _) ?_
              refine hK _ _ ?_
              clear hK K
              change wpAny _ _ _ _ _ _ (Act.put _ none _) _
              generalize hwb : World.setRow _ _ _ = wb
              have HN : Hid (RowD wb kn 32 (spX y a) A3 c3 B3 d3 C3 e3) := Lib.hid (by rw [← hwb]; exact RowD.put HZ.out (spX y a) A3 c3 B3 d3 C3 e3)
              have HSN := Lib.hid (show RdS wb (PW k16 G2 acc.length g2) A3 B3 C3 (spX y a) by rw [← hwb]; exact ((SN.out).row (.inr rfl) _).weak (fun g hg => .inl hg))
              have HBN := Lib.hid (show Below wr.heap.size wr wb by rw [← hwb]; exact belowRow hbx hge _)
              clear hwb
              try simp only [Act.put]
              refine take1 (i := 12) (d := some 23) (v := ?_) rfl rfl (by kernel_rfl) (by kernel_rfl) (by kernel_rfl) (fun _ _ _ h => h) (Or.inl ⟨by rfl, ?_⟩) ?_
              rotate_left
              · intro w; first | (go_simp; done) | (go_simp; with_reducible rfl)
              simp only [Act.put, List.setIfInBounds_toArray, List.set_cons_zero, List.set_cons_succ]
              refine take1 (i := 13) (d := some 24) (v := ?_) rfl rfl (by kernel_rfl) (by kernel_rfl) (by kernel_rfl) (fun _ _ _ h => h) (Or.inl ⟨by rfl, ?_⟩) ?_
              rotate_left
              · intro w; first | (go_simp; done) | (go_simp; with_reducible rfl)
              simp only [Act.put, List.setIfInBounds_toArray, List.set_cons_zero, List.set_cons_succ]
              refine wpAny_done (by kernel_rfl) ?_ _
              go_wp2_with fail
              go_meet
              exact ⟨kn, A3, c3, B3, d3, C3, e3, rfl, rfl, rfl, HN.out, HSN.out, HBN.out, hge⟩
            · skip
              try go_simp
              refine hK _ _ ?_
              clear hK K
              try simp only [Act.put, List.setIfInBounds_toArray, List.set_cons_zero, List.set_cons_succ]
              refine wpAny_ready (rs := [0]) (by kernel_rfl) (by simp) ?_
              refine AllReady.cons rfl (fun K hK => ?_) AllReady.nil
              rw [if_pos (by rfl)]
              refine wp_load_row 32 _ rfl k16 rfl 32 _ (0, 0) _ RX.out Try.underlying32 rfl (by kernel_rfl) ?_
              refine hK _ _ ?_
              clear hK K
              change wpAny _ _ _ _ _ _ (Act.put _ (some 147) _) _
              try simp only [Act.put, List.setIfInBounds_toArray, List.set_cons_zero, List.set_cons_succ]
              refine wpAny_ready (rs := [5]) (by kernel_rfl) (by simp) ?_
              refine AllReady.cons rfl (fun K hK => ?_) AllReady.nil
              rw [if_pos (by rfl)]
              try go_simp
              refine (Step_q y a Ay By Cy cy dy ey wa ((SA0.out.keep hbx).rd) HSd.out.1 HSd.out.2).mono ?_
              rintro r w4 ⟨⟨A3, c3, B3, d3, C3, e3, rfl, hd⟩, hb⟩
              refine hK _ _ ?_
              clear hK K
              have SN := Lib.hid (safe13 SA0.out (Same3.spX y a) hbx hb HPS.out hge HZ.out.lt hd)
              replace RX := Lib.hid (RX.out.keep RX.out.lt hb)
              replace hca := keep_cell hb hca
              replace HZ := Lib.hid (HZ.out.keep HZ.out.lt hb)
              replace hbx := below_seq hbx hb
              clear hb hd
              rename World => wa
              try simp only [Act.put, List.setIfInBounds_toArray, List.set_cons_zero, List.set_cons_succ]
              refine take1 (i := 6) (d := some 146) (v := ?_) rfl rfl (by kernel_rfl) (by kernel_rfl) (by kernel_rfl) (fun _ _ _ h => h) (Or.inl ⟨by rfl, ?_⟩) ?_
              rotate_left
              · intro w; first | (go_simp; done) | (go_simp; with_reducible rfl)
              simp only [Act.put, List.setIfInBounds_toArray, List.set_cons_zero, List.set_cons_succ]
              refine take1 (i := 7) (d := some 153) (v := ?_) rfl rfl (by kernel_rfl) (by kernel_rfl) (by kernel_rfl) (fun _ _ _ h => h) (Or.inl ⟨by rfl, ?_⟩) ?_
              rotate_left
              · intro w; first | (go_simp; done) | (go_simp; with_reducible rfl)
              simp only [Act.put, List.setIfInBounds_toArray, List.set_cons_zero, List.set_cons_succ]
              refine take1 (i := 8) (d := some 154) (v := ?_) rfl rfl (by kernel_rfl) (by kernel_rfl) (by kernel_rfl) (fun _ _ _ h => h) (Or.inl ⟨by rfl, ?_⟩) ?_
              rotate_left
              · intro w; first | (go_simp; done) | (go_simp; with_reducible rfl)
              simp only [Act.put, List.setIfInBounds_toArray, List.set_cons_zero, List.set_cons_succ]
              refine take1 (i := 9) (d := some 155) (v := ?_) rfl rfl (by kernel_rfl) (by kernel_rfl) (by kernel_rfl) (fun _ _ _ h => h) (Or.inl ⟨by rfl, ?_⟩) ?_
              rotate_left
              · intro w; first | (go_simp; done) | (go_simp; with_reducible rfl)
              simp only [Act.put, List.setIfInBounds_toArray, List.set_cons_zero, List.set_cons_succ]
              refine wpAny_ready (rs := [11]) (by kernel_rfl) (by simp) ?_
              refine AllReady.cons rfl (fun K hK => ?_) AllReady.nil
              rw [if_pos (by rfl)]
              refine wp_store_row 32 _ _ rfl kn _ rfl rfl 32 _ HZ.out (by kernel_rfl) rfl (dc_one (spX y a) _ _ _ _ _ _) ?_
              refine hK _ _ ?_
              clear hK K
              change wpAny _ _ _ _ _ _ (Act.put _ none _) _
              generalize hwb : World.setRow _ _ _ = wb
              have HN : Hid (RowD wb kn 32 (spX y a) A3 c3 B3 d3 C3 e3) := Lib.hid (by rw [← hwb]; exact RowD.put HZ.out (spX y a) A3 c3 B3 d3 C3 e3)
              have HSN := Lib.hid (show RdS wb (PW k16 G2 acc.length g2) A3 B3 C3 (spX y a) by rw [← hwb]; exact ((SN.out).row (.inr rfl) _).weak (fun g hg => .inl hg))
              have HBN := Lib.hid (show Below wr.heap.size wr wb by rw [← hwb]; exact belowRow hbx hge _)
              clear hwb
              try simp only [Act.put]
              refine take1 (i := 12) (d := some 23) (v := ?_) rfl rfl (by kernel_rfl) (by kernel_rfl) (by kernel_rfl) (fun _ _ _ h => h) (Or.inl ⟨by rfl, ?_⟩) ?_
              rotate_left
              · intro w; first | (go_simp; done) | (go_simp; with_reducible rfl)
              simp only [Act.put, List.setIfInBounds_toArray, List.set_cons_zero, List.set_cons_succ]
              refine take1 (i := 13) (d := some 24) (v := ?_) rfl rfl (by kernel_rfl) (by kernel_rfl) (by kernel_rfl) (fun _ _ _ h => h) (Or.inl ⟨by rfl, ?_⟩) ?_
              rotate_left
              · intro w; first | (go_simp; done) | (go_simp; with_reducible rfl)
              simp only [Act.put, List.setIfInBounds_toArray, List.set_cons_zero, List.set_cons_succ]
              refine wpAny_done (by kernel_rfl) ?_ _
              go_wp2_with fail
              go_meet
              exact ⟨kn, A3, c3, B3, d3, C3, e3, rfl, rfl, rfl, HN.out, HSN.out, HBN.out, hge⟩
      case rest =>
        clear RA0 SA0 HPS
        obtain ⟨k22, A5, c5, B5, d5, C5, e5, rfl, rfl, rfl, hRN, hSN, hbx, hgN⟩ := hcut
        have hvs := valid_step HPy.out a
        rw [hvs.2.1] at hRN hSN
        rw [hvs.1, hvs.2.2]
        obtain ⟨s1, s2, s3, s4, _, s6, s7, _⟩ := err_step HPy.out HRd.out HRa.out HSt.out.1 HSt.out.2
        rw [s1]
        have RN := Lib.hid hRN
        have SN := Lib.hid hSN
        have HQB := Lib.hid hbx
        have HWB := Lib.hid (below_seq HQ.out.bel hbx)
        have HS2 := Lib.hid s2
        have HS3 := Lib.hid s3
        have HS4 := Lib.hid s4
        have HS6 := Lib.hid s6
        have HS7 := Lib.hid s7
        clear hRN hSN hbx hvs s1 s2 s3 s4 s6 s7
        obtain ⟨n, rfl⟩ : ∃ n : Nat, a = (n : Int) := ⟨a.toNat, by omega⟩
        obtain ⟨q, hst, hq1, hq2, hn1, hn2, hn3, _, _, _, _, t4, t5⟩ := okst HPy.out.ok HRa.out.2
        have hst' : Hid (y.st.toNat = q) := Lib.hid (by rw [hst]; rfl)
        rw [HKy.out.nx] at hq1 hn1
        rw [HKy.out.out] at hq2 hn2
        rw [HKy.out.step] at hn3 t4 t5
        have hMx : RdD wc A B C x := HM.out.keep (below_seq HBW.out HWB.out)
        obtain ⟨adC, cst, rfl, hcst, hcC⟩ := hMx.step.at_ (i := n) hn3
        obtain ⟨adA, A6, c6, row, rfl, hrow, hcA, hrA⟩ := hMx.nx.at_ (i := q) hq1
        obtain ⟨adB, B6, d6, orow, rfl, horow, hcB, hrB⟩ := hMx.out.at_ (i := q) hq2
        have hn1' : n < row.length := by rw [← hrow]; exact hn1
        have hn2' : n < orow.length := by rw [← horow]; exact hn2
        obtain ⟨adA1, tar, rfl, htar, hcA1⟩ := hrA.at_ (i := n) hn1'
        obtain ⟨adB1, ot, rfl, hot, hcB1⟩ := hrB.at_ (i := n) hn2'
        have t4' : 0 ≤ cst := by rw [← hcst]; exact t4
        have t5' : cst ≤ 1048576 := by rw [← hcst]; exact t5
        have HT : Hid (tarD y n = tar) := Lib.hid (by unfold tarD; rw [hst'.out, HKy.out.nx, Int.toNat_natCast]; exact (congrArg (fun l => l.getD n 0) hrow).trans htar)
        have HO : Hid (outD y n = ot) := Lib.hid (by unfold outD; rw [hst'.out, HKy.out.out, Int.toNat_natCast]; exact (congrArg (fun l => l.getD n 0) horow).trans hot)
        have HCo : Hid (costD1 y n = cst) := Lib.hid (by unfold costD1; rw [HKy.out.step, Int.toNat_natCast]; exact hcst)
        have hob : 0 ≤ ot ∧ ot ≤ 1048576 := by
          have h9 := HPy.out.ok.m.cell q n (by rw [HKy.out.nx]; exact hq1) (by have := HRa.out.2; omega)
          have e9 : (y.out.getD q []).getD n 0 = ot := by rw [HKy.out.out]; exact (congrArg (fun l => l.getD n 0) horow).trans hot
          rw [e9] at h9
          exact ⟨h9.2.2.1, h9.2.2.2⟩
        have HOb := Lib.hid hob
        replace hq1 : q < x.nx.length := hq1
        replace hq2 : q < x.out.length := hq2
        replace hn3 : n < x.step.length := hn3
        have hrl := hrA.1
        have hol := hrB.1
        have hxl := hMx.nx.1
        have hul := hMx.out.1
        have hsl := hMx.step.1
        have hwl := HW.out.1
        have hcw := keep_cell HQB.out hca0.out
        have mC := (BMx.out.keep HWB.out)
        have lC := (BLx.out.keep HWB.out)
        have HK := Lib.hid (And.intro hcC (And.intro hcA (And.intro hcA1 (And.intro hcw (And.intro mC lC)))))
        have m3 := mC.c3
        rw [hst]
        have HST := Lib.hid hst
        clear hst hMx hn1 hn2 t4 t5 hrow horow hcst htar hot hrA hrB hob mC lC hcC hcA hcA1
        go_upto_region 22 with fail
        go_quiet (fail)
        clear hcB hcB1 m3
        generalize hwq : World.drewN _ _ = v1
        have hb1 : Below wc.heap.size wc v1 := by rw [← hwq]; exact below_drewN' (Below.refl _ _) _
        clear hwq hcw
        as_aux_lemma =>
          go_upto_region 23 with fail
          have l0 := keep_cell hb1 HK.out.2.2.2.2.2.l0
          have hcw := keep_cell hb1 HK.out.2.2.2.1
          have hcC := keep_cell hb1 HK.out.1
          go_quiet (fail)
          clear l0 hcw hcC
          generalize hwq : World.drewN _ _ = v2
          have hb2 : Below wc.heap.size wc v2 := by rw [← hwq]; exact below_drewN' hb1 _
          clear hwq
          go_upto_region 24 with fail
          have m2 := keep_cell hb2 HK.out.2.2.2.2.1.c2
          have hcw := keep_cell hb2 HK.out.2.2.2.1
          have hcA := keep_cell hb2 HK.out.2.1
          have hcA1 := keep_cell hb2 HK.out.2.2.1
          go_quiet (fail)
          clear m2 hcw hcA hcA1 HK
          generalize hwq : World.drewN _ _ = v3
          have hb3 : Below wc.heap.size wc v3 := by rw [← hwq]; exact below_drewN' hb2 _
          clear hwq hb1 hb2
          replace RN := Lib.hid (RN.out.keep RN.out.lt hb3)
          replace SN := Lib.hid (SN.out.keep hb3)
          replace HQB := Lib.hid (below_seq HQB.out hb3)
          replace HWB := Lib.hid (below_seq HWB.out hb3)
          clear hb3
          have z4 := RN.out.box.c4
          have z12 := RN.out.box.c12
          have z14 := RN.out.box.c14
          rw [HS2.out, HT.out] at z4
          rw [HS4.out, HS0.out] at z12
          rw [HS3.out, HCo.out] at z14
          go_upto_region 27 with fail
          clear z4 z12 z14
          generalize hO : stepO y n = o at *
          have HOo := Lib.hid hO
          clear hO
          by_cases hx : o = -1
          · as_aux_lemma =>
              have hls := HQ.out.inv.lost hjl HRd.out HA.out HRa.out HSt.out.1 HSt.out.2 (HOo.out.trans hx)
              have hlost : 0 < x.lost := hls.2
              obtain ⟨rfl, rfl, rfl⟩ : Ry = stepX y n ∧ Ro = [] ∧ Re = 14 := by simpa using hls.1
              subst hx
              clear hls
              go_upto_region 28 with fail
              have R2r := Lib.hid (R2.out.keep R2.out.lt HWB.out)
              obtain ⟨p0, p1, p2, p3, p4, p5, p6, p7, p8, p9, p10, p11, p12, p13, p14⟩ := R2r.out.box
              obtain ⟨t0, t1, t2, t3, t4, t5, t6, t7, t8, t9, t10, t11, t12, t13, t14⟩ := RN.out.box
              have nF := (BFx.out.kept HWB.out).c0
              go_wp2_with fail
              clear p0 p1 p2 p3 p4 p5 p6 p7 p8 p9 p10 p11 p12 p13 p14 t0 t1 t2 t3 t4 t5 t6 t7 t8 t9 t10 t11 t12 t13 t14
              refine (dev_yes (stepX y n) A2 B2 C2 A5 B5 C5 c2 d2 e2 c5 d5 e5 v3 (M2.out.keep HWB.out) SN.out.rd).mono ?_
              rintro r w8 ⟨rfl, hb⟩
              replace nF := keep_cell hb nF
              have hbel := below_seq (below_seq HBW.out HWB.out) hb
              clear hb
              go_wp2_with fail
              refine (awake_t _).mono ?_
              rintro r wz ⟨rfl, hb⟩
              go_wp2_with fail
              go_ret
              exact ⟨rfl, below_seq hbel hb⟩
          have hxf : (o == -1) = false := by simpa using hx
          have ho0 := HS6.out hx
          have ho1 : o ≤ 1048577 := by
            have := HOb.out
            by_cases he : o = ot
            · omega
            · have := HS7.out hx (by rw [HO.out]; exact he); rw [HO.out] at this; omega
          by_cases hxe : o = ot
          · as_aux_lemma =>
              subst hxe
              have hxe' : (o != o) = false := by simp
              go_upto_region 31 with fail
              clear hxf hxe'
              have HNI := Lib.hid (HQ.out.inv.go hjl HRd.out HA.out HRa.out HSt.out.1 HSt.out.2 (by rw [HOo.out]; exact hx))
              rw [HOo.out] at HNI
              have HOw := Lib.hid (ownsRow_up HQ.out.own (fun g h1 h2 => HQB.out.block g h2))
              have hsz : k16 + 1 ≤ v3.heap.size := Nat.le_trans HQ.out.row.lt HQB.out.size
              go_upto_region 32 with (at_builtin; refine app1h rfl (.tmp 251) (.tmp 253) 25 3 _ _ rfl Try.underlying25 info3 rfl (by decide) rfl rfl HOw.out rfl (show acc.length ≤ 1099511627776 by omega) hsz ?_; intro v' w5 hown' hg' hl'; obtain ⟨G5, g5, rfl⟩ := own_slice hown'; have HN5 := Lib.hid hown'; have HG5 := Lib.hid hg'; have HL5 := Lib.hid hl'; clear hown' hg' hl')
              have HE5 := Lib.hid (HQ.out.next hge HQB.out RN.out SN.out HN5.out HG5.out HL5.out HNI.out)
              go_wp2_with (first | (refine wpList_load_row rfl 32 _ rfl k22 rfl 32 _ (0, 0) _ HE5.out.1 Try.underlying32 rfl (by kernel_rfl) ?_) | (refine wpList_store_row rfl 32 _ _ rfl k16 _ rfl rfl 32 _ HE5.out.2.1 (by kernel_rfl) rfl (dc_one _ _ _ _ _ _ _) ?_))
              go_roundw
              case rel => exact ⟨acc ++ [o], stepX y n, A5, c5, B5, d5, C5, e5, G5, g5, by rw [HS2.out, HT.out], by rw [HS3.out, HCo.out], by simp, by simp, by simp; omega, Lib.hid (HE5.out.2.2 _ rfl)⟩
              case measure => simp [intOf] <;> omega
          as_aux_lemma =>
            have hdf := HS7.out hx (by rw [HO.out]; exact hxe)
            rw [HO.out] at hdf
            have hxe' : (o != ot) = true := by simpa using hxe
            have nF := (BFx.out.kept HWB.out).c1
            have hwn : ¬ x.wrong = 0 := by have := hdf.1; rw [HKy.out.wrong] at this; exact this
            have hwf : (x.wrong == 0) = false := by simpa using hwn
            clear hwn
            have hd1 : ¬ 1 < o - ot := by omega
            have hd2 : ¬ 1 < ot - o := by omega
            have ho2 := HOb.out.1
            have ho3 := HOb.out.2
            go_upto_region 31 with fail
            clear hxf hxe' nF hwf hd1 hd2 ho2 ho3 hdf hxe
            have HNI := Lib.hid (HQ.out.inv.go hjl HRd.out HA.out HRa.out HSt.out.1 HSt.out.2 (by rw [HOo.out]; exact hx))
            rw [HOo.out] at HNI
            have HOw := Lib.hid (ownsRow_up HQ.out.own (fun g h1 h2 => HQB.out.block g h2))
            have hsz : k16 + 1 ≤ v3.heap.size := Nat.le_trans HQ.out.row.lt HQB.out.size
            go_upto_region 32 with (at_builtin; refine app1h rfl (.tmp 251) (.tmp 253) 25 3 _ _ rfl Try.underlying25 info3 rfl (by decide) rfl rfl HOw.out rfl (show acc.length ≤ 1099511627776 by omega) hsz ?_; intro v' w5 hown' hg' hl'; obtain ⟨G5, g5, rfl⟩ := own_slice hown'; have HN5 := Lib.hid hown'; have HG5 := Lib.hid hg'; have HL5 := Lib.hid hl'; clear hown' hg' hl')
            have HE5 := Lib.hid (HQ.out.next hge HQB.out RN.out SN.out HN5.out HG5.out HL5.out HNI.out)
            go_wp2_with (first | (refine wpList_load_row rfl 32 _ rfl k22 rfl 32 _ (0, 0) _ HE5.out.1 Try.underlying32 rfl (by kernel_rfl) ?_) | (refine wpList_store_row rfl 32 _ _ rfl k16 _ rfl rfl 32 _ HE5.out.2.1 (by kernel_rfl) rfl (dc_one _ _ _ _ _ _ _) ?_))
            go_roundw
            case rel => exact ⟨acc ++ [o], stepX y n, A5, c5, B5, d5, C5, e5, G5, g5, by rw [HS2.out, HT.out], by rw [HS3.out, HCo.out], by simp, by simp, by simp; omega, Lib.hid (HE5.out.2.2 _ rfl)⟩
            case measure => simp [intOf] <;> omega
end Go.Proofs.Ytpoppadihbgbgaa
