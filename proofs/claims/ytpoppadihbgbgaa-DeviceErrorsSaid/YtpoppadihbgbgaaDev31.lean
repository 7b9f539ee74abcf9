/- DeviceFaithful: the walk of the law. -/
import Derived.Test.YtpoppadihbgbgaaDev30
import Derived.Deep.RegionHeld
import Derived.Deep.DeepCutAuto
namespace Go.Proofs.Ytpoppadihbgbgaa
open Go.RowKit
theorem takeH {P : Program} {ops : Array Oper} {Q : Exit → Act → World → Prop} {S : World → Prop} {md : Region.Mode} {i : Nat} {oi : Oper} {v : Value} {d : Option Tmp} {fuel : Nat} {listed : Array Bool} {a : Act} {w : World} (hi : ops[i]? = some oi) (hd : oi.dst = d)
    (hs : Region.noSelect ops = true) (hf : Region.free md ops listed i = true) (hr : (Region.ready md ops listed).contains i = true)
    (hQ : ∀ c a w, Q (.panic c) (a.put d v) w → Q (.panic c) a w) (hy : YieldsIf P ops S oi v a) (hS : S w)
    (h : wpAnyH P md ops Q S fuel (listed.setIfInBounds i true) (a.put d v) w) : wpAnyH P md ops Q S (fuel + 1) listed a w := by
  subst hd
  exact wpAnyH_take hi hs hf hr hQ hy hS h
/-- a machine in a box -/
structure BM (w : World) (k : Nat) (x : Dv) (A : Option Addr) (c : Nat) (B : Option Addr) (d : Nat) : Prop where
  c0 : w.cell? ⟨k, 0, none⟩ = some (.int .i64 x.I)
  c1 : w.cell? ⟨k, 1, none⟩ = some (.int .i64 x.S)
  c2 : w.cell? ⟨k, 2, none⟩ = some (.slice A x.nx.length c)
  c3 : w.cell? ⟨k, 3, none⟩ = some (.slice B x.out.length d)
/-- a latency in a box -/
structure BL (w : World) (k : Nat) (x : Dv) (C : Option Addr) (e : Nat) : Prop where
  l0 : w.cell? ⟨k, 0, none⟩ = some (.slice C x.step.length e)
  l1 : w.cell? ⟨k, 1, none⟩ = some (.int .i64 x.rs)
theorem BM.keep {w w' : World} {k : Nat} {x : Dv} {A B : Option Addr} {c d : Nat} (h : BM w k x A c B d) (hb : Below w.heap.size w w') : BM w' k x A c B d := ⟨keep_cell hb h.c0, keep_cell hb h.c1, keep_cell hb h.c2, keep_cell hb h.c3⟩
theorem BL.keep {w w' : World} {k : Nat} {x : Dv} {C : Option Addr} {e : Nat} (h : BL w k x C e) (hb : Below w.heap.size w w') : BL w' k x C e := ⟨keep_cell hb h.l0, keep_cell hb h.l1⟩
/-- what stands behind the first statement -/
def RF (w : World) (x : Dv) (A : Option Addr) (c : Nat) (B : Option Addr) (d : Nat) (C : Option Addr) (e : Nat) (u1 u2 u3 p q s v t : Value) (wx : World) : Prop :=
  ∃ k3 k4, p = .pointer (some ⟨k3, 0, none⟩) ∧ q = .pointer (some ⟨k4, 0, none⟩) ∧ s = u1 ∧ v = u2 ∧ t = u3 ∧ BM wx k3 x A c B d ∧ BL wx k4 x C e ∧ Below w.heap.size w wx
theorem run_x (x : Dv) (ok : OkD x) (ws : List Int) (A B F : Option Addr) (c d f : Nat) (w : World) (ha : RdM .i64 w A x.nx) (hb : RdM .i64 w B x.out) (hw : Rd w F ws) :
    Calls Try.prog 26 #[.agg #[.int .i64 x.I, .int .i64 x.S, .slice A x.nx.length c, .slice B x.out.length d], .slice F ws.length f] w (RunP x.I x.nx x.out x.S ws w) := by
  have := run_r x.I.toNat x.S.toNat x.nx x.out ws A B F c d f w ha hb hw ok.m
  rwa [Int.toNat_of_nonneg (by have := ok.I0; omega), Int.toNat_of_nonneg ok.S0] at this
theorem from_x (x : Dv) (ok : OkD x) (ws : List Int) (A B F : Option Addr) (c d f : Nat) (w : World) (ha : RdM .i64 w A x.nx) (hb : RdM .i64 w B x.out) (hw : Rd w F ws) :
    Calls Try.prog 27 #[.agg #[.int .i64 x.I, .int .i64 x.S, .slice A x.nx.length c, .slice B x.out.length d], .int .i64 x.S, .slice F ws.length f] w (FromP x.I x.nx x.out x.S ws w) := by
  have := from_r x.I.toNat x.S.toNat x.S x.nx x.out ws A B F c d f w ha hb hw ok.m ok.S0 ok.S1
  rwa [Int.toNat_of_nonneg (by have := ok.I0; omega), Int.toNat_of_nonneg ok.S0] at this
theorem cost_x {x : Dv} (ok : OkD x) {ws : List Int} (hc : checkE x.I ws = 0) : coE x.step x.rs ws = 0 ∧ coN x.step x.rs ws = x.rs + costL x.step ws := by
  have h1 := ok.len
  have h2 := ok.I0
  have h3 := ok.I1
  have h4 : costE x.step x.rs = 0 := by
    have := fits_mk (lat := x.step) (rs := x.rs) (k := x.step.length) rfl ok.cost ok.rs0 ok.rs1
    unfold fitsE at this
    rwa [if_neg (by simp)] at this
  have h5 : coE x.step x.rs ws = 0 := by rw [co_3 (by omega) h4, h1]; exact hc
  exact ⟨h5, by rw [co_ok h5, sumTo_all]⟩
/-- the sums after the first query -/
theorem costL_bd {x : Dv} (ok : OkD x) {ws : List Int} (hc : checkE x.I ws = 0) : 0 ≤ costL x.step ws ∧ costL x.step ws ≤ ws.length * 1048576 := by
  obtain ⟨_, _, _, hall⟩ := check_all hc
  have := sum_bd (step := x.step) (ws := ws) ok.cost (by rw [ok.len]; exact hall) ws.length (Nat.le_refl _)
  rwa [sumTo_all] at this
def Mid (x z : Dv) (ws : List Int) : Prop := Kept (nextR x) z ∧ z.rdy = true ∧ z.st = endL x.nx x.S ws ∧ z.steps = x.steps + ws.length ∧ z.time = x.time + x.rs + costL x.step ws ∧ z.resets = x.resets + 1 ∧ OkD z ∧ (0 ≤ x.seed → x.seed < 18446744073709551616 → 0 ≤ z.seed ∧ z.seed < 18446744073709551616)
theorem times_1 {x y : Dv} {vs : List Int} (h : Mid (newX x) y vs) (ok : OkD (newX x)) (hc : checkE x.I vs = 0) (hn : vs.length ≤ 60) :
    y.time = x.rs + costL x.step vs ∧ y.steps ≤ 60 ∧ y.resets ≤ 1 ∧ 0 ≤ x.rs + costL x.step vs ∧ x.rs + costL x.step vs ≤ 1000000000 := by
  obtain ⟨_, _, _, h4, h5, h6, _⟩ := h
  have h7 := costL_bd ok hc
  have e1 : (newX x).steps = 0 := rfl
  have e2 : (newX x).time = 0 := rfl
  have e3 : (newX x).resets = 0 := rfl
  have e4 : (newX x).rs = x.rs := rfl
  have e5 : (newX x).step = x.step := rfl
  have h8 := ok.rs0
  have h9 := ok.rs1
  rw [e1] at h4
  rw [e2, e4, e5] at h5
  rw [e3] at h6
  rw [e5] at h7
  rw [e4] at h8 h9
  refine ⟨by omega, by omega, by omega, by omega, by omega⟩
theorem times_2 {x y z : Dv} {vs ws : List Int} (h : Mid (newX x) y vs) (k : Mid y z ws) (ok : OkD (newX x)) (_ : checkE x.I vs = 0) (hc2 : checkE x.I ws = 0) (_ : vs.length ≤ 60) (hn2 : ws.length ≤ 60) :
    z.st = endL x.nx x.S ws ∧ z.steps = (vs.length : Int) + ws.length ∧ z.resets = 2 ∧ z.time = (x.rs + costL x.step vs) + (x.rs + costL x.step ws) ∧ 0 ≤ x.rs + costL x.step ws ∧ x.rs + costL x.step ws ≤ 1000000000 := by
  obtain ⟨hK, _, _, h4, h5, h6, _⟩ := h
  obtain ⟨_, _, k3, k4, k5, k6, _⟩ := k
  have h7 := costL_bd ok hc2
  have e1 : (newX x).steps = 0 := rfl
  have e2 : (newX x).time = 0 := rfl
  have e3 : (newX x).resets = 0 := rfl
  have e4 : (newX x).rs = x.rs := rfl
  have e5 : (newX x).step = x.step := rfl
  have h8 := ok.rs0
  have h9 := ok.rs1
  have f1 : y.nx = x.nx := hK.nx
  have f2 : y.S = x.S := hK.S
  have f3 : y.rs = x.rs := hK.rs
  have f4 : y.step = x.step := hK.step
  rw [e1] at h4
  rw [e2, e4, e5] at h5
  rw [e3] at h6
  rw [e5] at h7
  rw [e4] at h8 h9
  rw [f1, f2] at k3
  rw [f3, f4] at k5
  refine ⟨k3, by omega, by omega, by omega, by omega, by omega⟩
set_option maxRecDepth 100000 in
set_option maxHeartbeats 16000000 in
theorem faithful_w (x : Dv) (vs ws : List Int) (A B C F G : Option Addr) (c d e f g : Nat) (w : World) (h : RdD w A B C x) (hv : Rd w F vs) (hw : Rd w G ws) (s0 : 0 ≤ x.seed) (s1 : x.seed < 18446744073709551616) (z1 : x.lost = 0) (z2 : x.wrong = 0) (z3 : x.crash = 0) :
    Calls Try.prog 7 #[.agg #[.int .i64 x.I, .int .i64 x.S, .slice A x.nx.length c, .slice B x.out.length d, .slice C x.step.length e, .int .i64 x.rs, .int .u64 x.seed, .slice F vs.length f, .slice G ws.length g]] w fun r w' => r = .returned (.bool true) ∧ Below w.heap.size w w' := by
  have mv := hv.1
  have mw := hw.1
  have HM := Lib.hid h
  have HV := Lib.hid hv
  have HW := Lib.hid hw
  have HS := Lib.hid (And.intro s0 s1)
  have HZ0 := Lib.hid (And.intro z1 (And.intro z2 z3))
  clear h hv hw s0 s1 z1 z2 z3
  go_enter Try.func7, Try.ntmps7
  go_upto_region 1 with fail
  generalize hw0 : World.alloc _ _ = w0
  have k0 : w0.cell? ⟨w.heap.size, 0, none⟩ = some (.int .i64 x.I) := by rw [← hw0]; clear hw0; go_simp
  have k1 : w0.cell? ⟨w.heap.size, 1, none⟩ = some (.int .i64 x.S) := by rw [← hw0]; clear hw0; go_simp
  have k2 : w0.cell? ⟨w.heap.size, 2, none⟩ = some (.slice A x.nx.length c) := by rw [← hw0]; clear hw0; go_simp
  have k3 : w0.cell? ⟨w.heap.size, 3, none⟩ = some (.slice B x.out.length d) := by rw [← hw0]; clear hw0; go_simp
  have k4 : w0.cell? ⟨w.heap.size, 4, none⟩ = some (.slice C x.step.length e) := by rw [← hw0]; clear hw0; go_simp
  have k5 : w0.cell? ⟨w.heap.size, 5, none⟩ = some (.int .i64 x.rs) := by rw [← hw0]; clear hw0; go_simp
  have k6 : w0.cell? ⟨w.heap.size, 6, none⟩ = some (.int .u64 x.seed) := by rw [← hw0]; clear hw0; go_simp
  have k7 : w0.cell? ⟨w.heap.size, 7, none⟩ = some (.slice F vs.length f) := by rw [← hw0]; clear hw0; go_simp
  have k8 : w0.cell? ⟨w.heap.size, 8, none⟩ = some (.slice G ws.length g) := by rw [← hw0]; clear hw0; go_simp
  have hbel : Below w.heap.size w w0 := by rw [← hw0]; exact (Below.refl _ _).alloc (Nat.le_refl _) _
  have HB0 := Lib.hid hbel
  clear hw0 hbel
  go_cut [3, 4, 5, 6, 7] (fun p q s v t wx => RF w x A c B d C e (.int .u64 x.seed) (.slice F vs.length f) (.slice G ws.length g) p q s v t wx)
  case first =>
    refine wp_region_held_drew (S := fun wx => Below w0.heap.size w0 wx) (by kernel_rfl) ((Below.refl _ _).drew) (fun hS => ?_)
    refine takeH (i := 0) (d := some 27) (v := ?_) rfl rfl (by kernel_rfl) (by kernel_rfl) (by kernel_rfl) (fun _ _ _ h => h) (Or.inl ⟨by rfl, ?_⟩) hS ?_
    rotate_left
    · intro wx hSx; clear hSx; first | (go_simp; done) | (go_simp; with_reducible rfl)
    simp only [Act.put, List.setIfInBounds_toArray, List.set_cons_zero, List.set_cons_succ]
    refine takeH (i := 1) (d := some 28) (v := ?_) rfl rfl (by kernel_rfl) (by kernel_rfl) (by kernel_rfl) (fun _ _ _ h => h) (Or.inl ⟨by rfl, ?_⟩) hS ?_
    rotate_left
    · intro wx hSx; have hSy : Below w0.heap.size w0 wx := hSx; have e0 := keep_cell hSy k0; have e1 := keep_cell hSy k1; have e2 := keep_cell hSy k2; have e3 := keep_cell hSy k3; have e4 := keep_cell hSy k4; have e5 := keep_cell hSy k5; have e6 := keep_cell hSy k6; have e7 := keep_cell hSy k7; have e8 := keep_cell hSy k8; clear hSy hSx; first | (go_simp; done) | (go_simp; with_reducible rfl)
    simp only [Act.put, List.setIfInBounds_toArray, List.set_cons_zero, List.set_cons_succ]
    refine takeH (i := 2) (d := some 29) (v := ?_) rfl rfl (by kernel_rfl) (by kernel_rfl) (by kernel_rfl) (fun _ _ _ h => h) (Or.inl ⟨by rfl, ?_⟩) hS ?_
    rotate_left
    · intro wx hSx; clear hSx; first | (go_simp; done) | (go_simp; with_reducible rfl)
    simp only [Act.put, List.setIfInBounds_toArray, List.set_cons_zero, List.set_cons_succ]
    refine takeH (i := 3) (d := some 30) (v := ?_) rfl rfl (by kernel_rfl) (by kernel_rfl) (by kernel_rfl) (fun _ _ _ h => h) (Or.inl ⟨by rfl, ?_⟩) hS ?_
    rotate_left
    · intro wx hSx; have hSy : Below w0.heap.size w0 wx := hSx; have e0 := keep_cell hSy k0; have e1 := keep_cell hSy k1; have e2 := keep_cell hSy k2; have e3 := keep_cell hSy k3; have e4 := keep_cell hSy k4; have e5 := keep_cell hSy k5; have e6 := keep_cell hSy k6; have e7 := keep_cell hSy k7; have e8 := keep_cell hSy k8; clear hSy hSx; first | (go_simp; done) | (go_simp; with_reducible rfl)
    simp only [Act.put, List.setIfInBounds_toArray, List.set_cons_zero, List.set_cons_succ]
    refine takeH (i := 4) (d := some 31) (v := ?_) rfl rfl (by kernel_rfl) (by kernel_rfl) (by kernel_rfl) (fun _ _ _ h => h) (Or.inl ⟨by rfl, ?_⟩) hS ?_
    rotate_left
    · intro wx hSx; clear hSx; first | (go_simp; done) | (go_simp; with_reducible rfl)
    simp only [Act.put, List.setIfInBounds_toArray, List.set_cons_zero, List.set_cons_succ]
    refine takeH (i := 5) (d := some 32) (v := ?_) rfl rfl (by kernel_rfl) (by kernel_rfl) (by kernel_rfl) (fun _ _ _ h => h) (Or.inl ⟨by rfl, ?_⟩) hS ?_
    rotate_left
    · intro wx hSx; have hSy : Below w0.heap.size w0 wx := hSx; have e0 := keep_cell hSy k0; have e1 := keep_cell hSy k1; have e2 := keep_cell hSy k2; have e3 := keep_cell hSy k3; have e4 := keep_cell hSy k4; have e5 := keep_cell hSy k5; have e6 := keep_cell hSy k6; have e7 := keep_cell hSy k7; have e8 := keep_cell hSy k8; clear hSy hSx; first | (go_simp; done) | (go_simp; with_reducible rfl)
    simp only [Act.put, List.setIfInBounds_toArray, List.set_cons_zero, List.set_cons_succ]
    refine takeH (i := 6) (d := some 33) (v := ?_) rfl rfl (by kernel_rfl) (by kernel_rfl) (by kernel_rfl) (fun _ _ _ h => h) (Or.inl ⟨by rfl, ?_⟩) hS ?_
    rotate_left
    · intro wx hSx; clear hSx; first | (go_simp; done) | (go_simp; with_reducible rfl)
    simp only [Act.put, List.setIfInBounds_toArray, List.set_cons_zero, List.set_cons_succ]
    refine takeH (i := 7) (d := some 34) (v := ?_) rfl rfl (by kernel_rfl) (by kernel_rfl) (by kernel_rfl) (fun _ _ _ h => h) (Or.inl ⟨by rfl, ?_⟩) hS ?_
    rotate_left
    · intro wx hSx; have hSy : Below w0.heap.size w0 wx := hSx; have e0 := keep_cell hSy k0; have e1 := keep_cell hSy k1; have e2 := keep_cell hSy k2; have e3 := keep_cell hSy k3; have e4 := keep_cell hSy k4; have e5 := keep_cell hSy k5; have e6 := keep_cell hSy k6; have e7 := keep_cell hSy k7; have e8 := keep_cell hSy k8; clear hSy hSx; first | (go_simp; done) | (go_simp; with_reducible rfl)
    simp only [Act.put, List.setIfInBounds_toArray, List.set_cons_zero, List.set_cons_succ]
    refine takeH (i := 8) (d := some 35) (v := ?_) rfl rfl (by kernel_rfl) (by kernel_rfl) (by kernel_rfl) (fun _ _ _ h => h) (Or.inl ⟨by rfl, ?_⟩) hS ?_
    rotate_left
    · intro wx hSx; clear hSx; first | (go_simp; done) | (go_simp; with_reducible rfl)
    simp only [Act.put, List.setIfInBounds_toArray, List.set_cons_zero, List.set_cons_succ]
    refine takeH (i := 9) (d := some 36) (v := ?_) rfl rfl (by kernel_rfl) (by kernel_rfl) (by kernel_rfl) (fun _ _ _ h => h) (Or.inl ⟨by rfl, ?_⟩) hS ?_
    rotate_left
    · intro wx hSx; have hSy : Below w0.heap.size w0 wx := hSx; have e0 := keep_cell hSy k0; have e1 := keep_cell hSy k1; have e2 := keep_cell hSy k2; have e3 := keep_cell hSy k3; have e4 := keep_cell hSy k4; have e5 := keep_cell hSy k5; have e6 := keep_cell hSy k6; have e7 := keep_cell hSy k7; have e8 := keep_cell hSy k8; clear hSy hSx; first | (go_simp; done) | (go_simp; with_reducible rfl)
    simp only [Act.put, List.setIfInBounds_toArray, List.set_cons_zero, List.set_cons_succ]
    generalize hwa : World.drew _ = wa at hS ⊢
    clear hwa
    have HSa := Lib.hid hS
    clear hS k0 k1 k2 k3 k4 k5 k6 k7 k8
    refine wpAnyH_ready (rs := [10, 11]) (by kernel_rfl) (by simp) ?_
    refine AllReadyH.cons rfl (fun K hK => ?_) (AllReadyH.cons rfl (fun K hK => ?_) AllReadyH.nil)
    · skip
      rw [if_pos (by rfl)]
      go_simp
      refine hK.out _ _ (Below.alloc HSa.out HSa.out.size _) (fun hS2 => ?_)
      clear hK K
      try simp only [Act.put, List.setIfInBounds_toArray, List.set_cons_zero, List.set_cons_succ]
      generalize hwb : World.alloc _ _ = wb at hS2 ⊢
      have HYM : Hid (wb.heap[wa.heap.size]? = some (.cells #[Value.int IntKind.i64 0, Value.int IntKind.i64 0, Value.slice none 0 0, Value.slice none 0 0] 24)) := Lib.hid (by rw [← hwb]; exact Go.heap_alloc_new _ _)
      have hgeM : w0.heap.size ≤ wa.heap.size := HSa.out.size
      replace HSa := Lib.hid hS2
      generalize wa.heap.size = kM at *
      clear hS2 hwb
      rename World => wa
      refine wpAnyH_ready (rs := [11]) (by kernel_rfl) (by simp) ?_
      refine AllReadyH.cons rfl (fun K hK => ?_) AllReadyH.nil
      rw [if_pos (by rfl)]
      go_simp
      refine hK.out _ _ (Below.alloc HSa.out HSa.out.size _) (fun hS2 => ?_)
      clear hK K
      try simp only [Act.put, List.setIfInBounds_toArray, List.set_cons_zero, List.set_cons_succ]
      generalize hwb : World.alloc _ _ = wb at hS2 ⊢
      have HYL : Hid (wb.heap[wa.heap.size]? = some (.cells #[Value.slice none 0 0, Value.int IntKind.i64 0] 27)) := Lib.hid (by rw [← hwb]; exact Go.heap_alloc_new _ _)
      have hne : kM ≠ wa.heap.size := Nat.ne_of_lt (Array.getElem?_eq_some_iff.1 HYM.out).1
      replace HYM : Hid (wb.heap[kM]? = some (.cells #[Value.int IntKind.i64 0, Value.int IntKind.i64 0, Value.slice none 0 0, Value.slice none 0 0] 24)) := Lib.hid (by rw [← hwb]; exact (heap_alloc_old _ _ (Array.getElem?_eq_some_iff.1 HYM.out).1).trans HYM.out)
      have hgeL : w0.heap.size ≤ wa.heap.size := HSa.out.size
      replace HSa := Lib.hid hS2
      generalize wa.heap.size = kL at *
      clear hS2 hwb
      rename World => wa
      refine wpAnyH_ready (rs := [12]) (by kernel_rfl) (by simp) ?_
      refine AllReadyH.cons rfl (fun K hK => ?_) AllReadyH.nil
      rw [if_pos (by rfl)]
      refine wp_store_row 24 _ _ rfl kM #[Value.int IntKind.i64 x.I, Value.int IntKind.i64 x.S, Value.slice A x.nx.length c, Value.slice B x.out.length d] rfl rfl 24 _ HYM.out (by kernel_rfl) rfl (by simp [Value.oneCell']) ?_
      refine hK.out _ _ (belowRow HSa.out hgeM _) (fun hS2 => ?_)
      clear hK K
      change wpAnyH _ _ _ _ _ _ _ (Act.put _ none _) _
      try simp only [Act.put]
      generalize hwb : World.setRow _ _ _ = wb at hS2 ⊢
      have HM4 : Hid (wb.heap[kM]? = some (.cells #[Value.int IntKind.i64 x.I, Value.int IntKind.i64 x.S, Value.slice A x.nx.length c, Value.slice B x.out.length d] 24)) := Lib.hid (by rw [← hwb]; exact setRow_heap _ _ _ _ _ _ HYM.out)
      replace HYL : Hid (wb.heap[kL]? = some (.cells #[Value.slice none 0 0, Value.int IntKind.i64 0] 27)) := Lib.hid (by rw [← hwb]; exact (setRow_other _ _ _ _ (by omega)).trans HYL.out)
      replace HSa := Lib.hid hS2
      clear hS2 hwb
      rename World => wa
      refine wpAnyH_ready (rs := [13]) (by kernel_rfl) (by simp) ?_
      refine AllReadyH.cons rfl (fun K hK => ?_) AllReadyH.nil
      rw [if_pos (by rfl)]
      refine wp_store_row 27 _ _ rfl kL #[Value.slice C x.step.length e, Value.int IntKind.i64 x.rs] rfl rfl 27 _ HYL.out (by kernel_rfl) rfl (by simp [Value.oneCell']) ?_
      refine hK.out _ _ (belowRow HSa.out hgeL _) (fun hS2 => ?_)
      clear hK K
      change wpAnyH _ _ _ _ _ _ _ (Act.put _ none _) _
      try simp only [Act.put]
      generalize hwb : World.setRow _ _ _ = wb at hS2 ⊢
      have HL2 : Hid (wb.heap[kL]? = some (.cells #[Value.slice C x.step.length e, Value.int IntKind.i64 x.rs] 27)) := Lib.hid (by rw [← hwb]; exact setRow_heap _ _ _ _ _ _ HYL.out)
      replace HM4 : Hid (wb.heap[kM]? = some (.cells #[Value.int IntKind.i64 x.I, Value.int IntKind.i64 x.S, Value.slice A x.nx.length c, Value.slice B x.out.length d] 24)) := Lib.hid (by rw [← hwb]; exact (setRow_other _ _ _ _ (by omega)).trans HM4.out)
      replace HSa := Lib.hid hS2
      clear hS2 hwb
      rename World => wa
      refine takeH (i := 14) (d := some 5) (v := ?_) rfl rfl (by kernel_rfl) (by kernel_rfl) (by kernel_rfl) (fun _ _ _ h => h) (Or.inl ⟨by rfl, ?_⟩) HSa.out ?_
      rotate_left
      · intro wx hSx; clear hSx; first | (go_simp; done) | (go_simp; with_reducible rfl)
      simp only [Act.put, List.setIfInBounds_toArray, List.set_cons_zero, List.set_cons_succ]
      refine takeH (i := 15) (d := some 6) (v := ?_) rfl rfl (by kernel_rfl) (by kernel_rfl) (by kernel_rfl) (fun _ _ _ h => h) (Or.inl ⟨by rfl, ?_⟩) HSa.out ?_
      rotate_left
      · intro wx hSx; clear hSx; first | (go_simp; done) | (go_simp; with_reducible rfl)
      simp only [Act.put, List.setIfInBounds_toArray, List.set_cons_zero, List.set_cons_succ]
      refine takeH (i := 16) (d := some 7) (v := ?_) rfl rfl (by kernel_rfl) (by kernel_rfl) (by kernel_rfl) (fun _ _ _ h => h) (Or.inl ⟨by rfl, ?_⟩) HSa.out ?_
      rotate_left
      · intro wx hSx; clear hSx; first | (go_simp; done) | (go_simp; with_reducible rfl)
      simp only [Act.put, List.setIfInBounds_toArray, List.set_cons_zero, List.set_cons_succ]
      refine wpAnyH_done (by kernel_rfl) ?_ _
      go_wp2_with fail
      go_meet
      refine ⟨kM, kL, rfl, rfl, rfl, rfl, rfl, ⟨?_, ?_, ?_, ?_⟩, ⟨?_, ?_⟩, below_seq HB0.out HSa.out⟩
      · rw [cell_of_row wa kM _ _ 24 (0, 0) HM4.out]; rfl
      · rw [cell_of_row wa kM _ _ 24 (0, 0) HM4.out]; rfl
      · rw [cell_of_row wa kM _ _ 24 (0, 0) HM4.out]; rfl
      · rw [cell_of_row wa kM _ _ 24 (0, 0) HM4.out]; rfl
      · rw [cell_of_row wa kL _ _ 27 (0, 0) HL2.out]; rfl
      · rw [cell_of_row wa kL _ _ 27 (0, 0) HL2.out]; rfl
    · skip
      rw [if_pos (by rfl)]
      go_simp
      refine hK.out _ _ (Below.alloc HSa.out HSa.out.size _) (fun hS2 => ?_)
      clear hK K
      try simp only [Act.put, List.setIfInBounds_toArray, List.set_cons_zero, List.set_cons_succ]
      generalize hwb : World.alloc _ _ = wb at hS2 ⊢
      have HYL : Hid (wb.heap[wa.heap.size]? = some (.cells #[Value.slice none 0 0, Value.int IntKind.i64 0] 27)) := Lib.hid (by rw [← hwb]; exact Go.heap_alloc_new _ _)
      have hgeL : w0.heap.size ≤ wa.heap.size := HSa.out.size
      replace HSa := Lib.hid hS2
      generalize wa.heap.size = kL at *
      clear hS2 hwb
      rename World => wa
      refine wpAnyH_ready (rs := [10]) (by kernel_rfl) (by simp) ?_
      refine AllReadyH.cons rfl (fun K hK => ?_) AllReadyH.nil
      rw [if_pos (by rfl)]
      go_simp
      refine hK.out _ _ (Below.alloc HSa.out HSa.out.size _) (fun hS2 => ?_)
      clear hK K
      try simp only [Act.put, List.setIfInBounds_toArray, List.set_cons_zero, List.set_cons_succ]
      generalize hwb : World.alloc _ _ = wb at hS2 ⊢
      have HYM : Hid (wb.heap[wa.heap.size]? = some (.cells #[Value.int IntKind.i64 0, Value.int IntKind.i64 0, Value.slice none 0 0, Value.slice none 0 0] 24)) := Lib.hid (by rw [← hwb]; exact Go.heap_alloc_new _ _)
      have hne : kL ≠ wa.heap.size := Nat.ne_of_lt (Array.getElem?_eq_some_iff.1 HYL.out).1
      replace HYL : Hid (wb.heap[kL]? = some (.cells #[Value.slice none 0 0, Value.int IntKind.i64 0] 27)) := Lib.hid (by rw [← hwb]; exact (heap_alloc_old _ _ (Array.getElem?_eq_some_iff.1 HYL.out).1).trans HYL.out)
      have hgeM : w0.heap.size ≤ wa.heap.size := HSa.out.size
      replace HSa := Lib.hid hS2
      generalize wa.heap.size = kM at *
      clear hS2 hwb
      rename World => wa
      refine wpAnyH_ready (rs := [12]) (by kernel_rfl) (by simp) ?_
      refine AllReadyH.cons rfl (fun K hK => ?_) AllReadyH.nil
      rw [if_pos (by rfl)]
      refine wp_store_row 24 _ _ rfl kM #[Value.int IntKind.i64 x.I, Value.int IntKind.i64 x.S, Value.slice A x.nx.length c, Value.slice B x.out.length d] rfl rfl 24 _ HYM.out (by kernel_rfl) rfl (by simp [Value.oneCell']) ?_
      refine hK.out _ _ (belowRow HSa.out hgeM _) (fun hS2 => ?_)
      clear hK K
      change wpAnyH _ _ _ _ _ _ _ (Act.put _ none _) _
      try simp only [Act.put]
      generalize hwb : World.setRow _ _ _ = wb at hS2 ⊢
      have HM4 : Hid (wb.heap[kM]? = some (.cells #[Value.int IntKind.i64 x.I, Value.int IntKind.i64 x.S, Value.slice A x.nx.length c, Value.slice B x.out.length d] 24)) := Lib.hid (by rw [← hwb]; exact setRow_heap _ _ _ _ _ _ HYM.out)
      replace HYL : Hid (wb.heap[kL]? = some (.cells #[Value.slice none 0 0, Value.int IntKind.i64 0] 27)) := Lib.hid (by rw [← hwb]; exact (setRow_other _ _ _ _ (by omega)).trans HYL.out)
      replace HSa := Lib.hid hS2
      clear hS2 hwb
      rename World => wa
      refine wpAnyH_ready (rs := [13]) (by kernel_rfl) (by simp) ?_
      refine AllReadyH.cons rfl (fun K hK => ?_) AllReadyH.nil
      rw [if_pos (by rfl)]
      refine wp_store_row 27 _ _ rfl kL #[Value.slice C x.step.length e, Value.int IntKind.i64 x.rs] rfl rfl 27 _ HYL.out (by kernel_rfl) rfl (by simp [Value.oneCell']) ?_
      refine hK.out _ _ (belowRow HSa.out hgeL _) (fun hS2 => ?_)
      clear hK K
      change wpAnyH _ _ _ _ _ _ _ (Act.put _ none _) _
      try simp only [Act.put]
      generalize hwb : World.setRow _ _ _ = wb at hS2 ⊢
      have HL2 : Hid (wb.heap[kL]? = some (.cells #[Value.slice C x.step.length e, Value.int IntKind.i64 x.rs] 27)) := Lib.hid (by rw [← hwb]; exact setRow_heap _ _ _ _ _ _ HYL.out)
      replace HM4 : Hid (wb.heap[kM]? = some (.cells #[Value.int IntKind.i64 x.I, Value.int IntKind.i64 x.S, Value.slice A x.nx.length c, Value.slice B x.out.length d] 24)) := Lib.hid (by rw [← hwb]; exact (setRow_other _ _ _ _ (by omega)).trans HM4.out)
      replace HSa := Lib.hid hS2
      clear hS2 hwb
      rename World => wa
      refine takeH (i := 14) (d := some 5) (v := ?_) rfl rfl (by kernel_rfl) (by kernel_rfl) (by kernel_rfl) (fun _ _ _ h => h) (Or.inl ⟨by rfl, ?_⟩) HSa.out ?_
      rotate_left
      · intro wx hSx; clear hSx; first | (go_simp; done) | (go_simp; with_reducible rfl)
      simp only [Act.put, List.setIfInBounds_toArray, List.set_cons_zero, List.set_cons_succ]
      refine takeH (i := 15) (d := some 6) (v := ?_) rfl rfl (by kernel_rfl) (by kernel_rfl) (by kernel_rfl) (fun _ _ _ h => h) (Or.inl ⟨by rfl, ?_⟩) HSa.out ?_
      rotate_left
      · intro wx hSx; clear hSx; first | (go_simp; done) | (go_simp; with_reducible rfl)
      simp only [Act.put, List.setIfInBounds_toArray, List.set_cons_zero, List.set_cons_succ]
      refine takeH (i := 16) (d := some 7) (v := ?_) rfl rfl (by kernel_rfl) (by kernel_rfl) (by kernel_rfl) (fun _ _ _ h => h) (Or.inl ⟨by rfl, ?_⟩) HSa.out ?_
      rotate_left
      · intro wx hSx; clear hSx; first | (go_simp; done) | (go_simp; with_reducible rfl)
      simp only [Act.put, List.setIfInBounds_toArray, List.set_cons_zero, List.set_cons_succ]
      refine wpAnyH_done (by kernel_rfl) ?_ _
      go_wp2_with fail
      go_meet
      refine ⟨kM, kL, rfl, rfl, rfl, rfl, rfl, ⟨?_, ?_, ?_, ?_⟩, ⟨?_, ?_⟩, below_seq HB0.out HSa.out⟩
      · rw [cell_of_row wa kM _ _ 24 (0, 0) HM4.out]; rfl
      · rw [cell_of_row wa kM _ _ 24 (0, 0) HM4.out]; rfl
      · rw [cell_of_row wa kM _ _ 24 (0, 0) HM4.out]; rfl
      · rw [cell_of_row wa kM _ _ 24 (0, 0) HM4.out]; rfl
      · rw [cell_of_row wa kL _ _ 27 (0, 0) HL2.out]; rfl
      · rw [cell_of_row wa kL _ _ 27 (0, 0) HL2.out]; rfl
  case rest =>
    clear k0 k1 k2 k3 k4 k5 k6 k7 k8 HB0
    obtain ⟨k3, k4, rfl, rfl, rfl, rfl, rfl, hbm, hbl, hbel⟩ := hcut
    have BMx := Lib.hid hbm
    have BLx := Lib.hid hbl
    obtain ⟨m0, m1, m2, m3⟩ := hbm
    obtain ⟨l0, l1⟩ := hbl
    clear w0
    go_wp2_with fail
    clear m0 m1 m2 m3 l0 l1
    have hmd := made_t x A B C c d e wc (HM.out.keep hbel)
    rw [HZ0.out.1, HZ0.out.2.1, HZ0.out.2.2] at hmd
    refine hmd.mono ?_
    clear hmd
    rintro r w1 ⟨⟨y, b, A1, c1, B1, d1, C1, e1, rfl, hm, hy⟩, hb⟩
    have MY := Lib.hid hm
    have HY := Lib.hid hy
    clear hm hy
    replace BMx := Lib.hid (BMx.out.keep hb)
    replace BLx := Lib.hid (BLx.out.keep hb)
    replace hbel := below_seq hbel hb
    clear hb
    go_upto_region 3 with fail
    generalize hwb : World.alloc _ _ = w2
    have hb : Below w1.heap.size w1 w2 := by rw [← hwb]; exact (Below.refl _ _).alloc (Nat.le_refl _) _
    have RY : Hid (RowD w2 w1.heap.size 32 y A1 c1 B1 d1 C1 e1) := Lib.hid (by rw [← hwb]; exact Go.heap_alloc_new _ _)
    clear hwb
    replace MY := Lib.hid (MY.out.keep hb)
    replace BMx := Lib.hid (BMx.out.keep hb)
    replace BLx := Lib.hid (BLx.out.keep hb)
    replace hbel := below_seq hbel hb
    clear hb
    generalize w1.heap.size = k8 at *
    cases b with
    | false =>
      go_wp2_with fail
      refine (awake_t _).mono ?_
      rintro r wz ⟨rfl, hb⟩
      go_wp2_with fail
      go_ret
      exact ⟨rfl, below_seq hbel hb⟩
    | true =>
    obtain ⟨rfl, hvalid⟩ := HY.out rfl
    clear HY
    by_cases hl1 : (60 : Int) < (vs.length : Int)
    · skip
      go_wp2_with fail
      refine (awake_t _).mono ?_
      rintro r wz ⟨rfl, hb⟩
      go_wp2_with fail
      go_ret
      exact ⟨rfl, below_seq hbel hb⟩
    by_cases hl2 : (60 : Int) < (ws.length : Int)
    · skip
      go_wp2_with fail
      refine (awake_t _).mono ?_
      rintro r wz ⟨rfl, hb⟩
      go_wp2_with fail
      go_ret
      exact ⟨rfl, below_seq hbel hb⟩
    have OK := Lib.hid (okD_of hvalid)
    clear hvalid
    go_upto_region 5 with fail
    have hl1n : vs.length ≤ 60 := by omega
    have hl2n : ws.length ≤ 60 := by omega
    clear hl1 hl2
    obtain ⟨m0, m1, m2, m3⟩ := BMx.out
    go_wp2_with fail
    clear m0 m1 m2 m3
    refine (run_x (newX x) OK.out vs A B F c d f w2 (HM.out.keep hbel).nx (HM.out.keep hbel).out (HV.out.keep hbel)).mono ?_
    rintro r w3 ⟨⟨G1, g1, rfl, ho⟩, hb⟩
    have OV := Lib.hid ho
    clear ho
    replace RY := Lib.hid (RY.out.keep RY.out.lt hb)
    replace BMx := Lib.hid (BMx.out.keep hb)
    replace BLx := Lib.hid (BLx.out.keep hb)
    replace MY := Lib.hid (MY.out.keep hb)
    replace hbel := below_seq hbel hb
    clear hb
    obtain ⟨m0, m1, m2, m3⟩ := BMx.out
    go_wp2_with fail
    clear m0 m1 m2 m3
    refine (run_x (newX x) OK.out ws A B G c d g w3 (HM.out.keep hbel).nx (HM.out.keep hbel).out (HW.out.keep hbel)).mono ?_
    rintro r w4 ⟨⟨G2, g2, rfl, ho⟩, hb⟩
    have OW := Lib.hid ho
    clear ho
    replace RY := Lib.hid (RY.out.keep RY.out.lt hb)
    replace BMx := Lib.hid (BMx.out.keep hb)
    replace BLx := Lib.hid (BLx.out.keep hb)
    replace MY := Lib.hid (MY.out.keep hb)
    replace OV := Lib.hid (OV.out.keep hb)
    replace hbel := below_seq hbel hb
    clear hb
    by_cases hc1 : checkE x.I vs = 0
    rotate_left
    · have hne1 : (checkE (newX x).I vs != 0) = true := ne0 hc1
      clear hc1
      go_wp2_with fail
      refine (awake_t _).mono ?_
      rintro r wz ⟨rfl, hb⟩
      go_wp2_with fail
      go_ret
      exact ⟨rfl, below_seq hbel hb⟩
    by_cases hc2 : checkE x.I ws = 0
    rotate_left
    · have hz1 : checkE (newX x).I vs = 0 := hc1
      have hne2 : (checkE (newX x).I ws != 0) = true := ne0 hc2
      clear hc1 hc2
      go_wp2_with fail
      refine (awake_t _).mono ?_
      rintro r wz ⟨rfl, hb⟩
      go_wp2_with fail
      go_ret
      exact ⟨rfl, below_seq hbel hb⟩
    have HC := Lib.hid (And.intro hc1 hc2)
    have hz1 : checkE (newX x).I vs = 0 := hc1
    have hz2 : checkE (newX x).I ws = 0 := hc2
    have fv : frO (newX x).I (newX x).nx (newX x).out (newX x).S vs = outsL x.nx x.out x.S vs := if_pos hc1
    have fw : frO (newX x).I (newX x).nx (newX x).out (newX x).S ws = outsL x.nx x.out x.S ws := if_pos hc2
    rw [fv] at OV ⊢
    rw [fw] at OW ⊢
    clear fv fw
    go_upto_region 9 with fail
    clear hz1 hz2 hc1 hc2
    have Q1 := Lib.hid (query_faith OK.out HZ0.out.1 HZ0.out.2.1 HZ0.out.2.2 HC.out.1 hl1n (show (0 : Int) ≤ 1000000 by decide) (show (0 : Int) ≤ 1000000 by decide) (show (0 : Int) ≤ 10000000000 by decide))
    go_wp2_with (refine wpList_load_row rfl 32 _ rfl k8 rfl 32 _ (0, 0) _ RY.out Try.underlying32 rfl (by kernel_rfl) ?_)
    refine (Query_p (newX x) vs A1 B1 C1 F c1 d1 e1 f w4 MY.out (HV.out.keep hbel) HS.out.1 HS.out.2).mono ?_
    rintro r w5 ⟨⟨A2, c2, B2, d2, C2, e2, F2, f2, rfl, hm, ho⟩, hb⟩
    obtain ⟨q1, q2, y1, q3, q4⟩ := Q1.out
    rw [q3] at hm ⊢
    rw [q2] at ho ⊢
    rw [q1]
    have M1 := Lib.hid hm
    have O1 := Lib.hid ho
    have Y1 := Lib.hid q4
    clear hm ho q1 q2 q3 q4 Q1 RY MY
    replace BMx := Lib.hid (BMx.out.keep hb)
    replace BLx := Lib.hid (BLx.out.keep hb)
    replace OV := Lib.hid (OV.out.keep hb)
    replace OW := Lib.hid (OW.out.keep hb)
    replace hbel := below_seq hbel hb
    clear hb
    go_upto_region 10 with fail
    generalize hwb : World.alloc _ _ = w6
    have hb : Below w5.heap.size w5 w6 := by rw [← hwb]; exact (Below.refl _ _).alloc (Nat.le_refl _) _
    have R1 : Hid (RowD w6 w5.heap.size 32 y1 A2 c2 B2 d2 C2 e2) := Lib.hid (by rw [← hwb]; exact Go.heap_alloc_new _ _)
    clear hwb
    replace BMx := Lib.hid (BMx.out.keep hb)
    replace BLx := Lib.hid (BLx.out.keep hb)
    replace OV := Lib.hid (OV.out.keep hb)
    replace OW := Lib.hid (OW.out.keep hb)
    replace M1 := Lib.hid (M1.out.keep hb)
    replace O1 := Lib.hid (O1.out.keep hb)
    replace hbel := below_seq hbel hb
    clear hb
    generalize w5.heap.size = k14 at *
    have TT := Lib.hid (times_1 Y1.out OK.out HC.out.1 hl1n)
    have Q2 := Lib.hid (query_faith Y1.out.2.2.2.2.2.2.1 (Y1.out.1.lost.trans HZ0.out.1) (Y1.out.1.wrong.trans HZ0.out.2.1) (Y1.out.1.crash.trans HZ0.out.2.2) (by rw [Y1.out.1.I]; exact HC.out.2) hl2n (by have := TT.out.2.1; omega) (by have := TT.out.2.2.1; omega) (by have := TT.out.2.2.2.2; have := TT.out.1; omega))
    have S1 := Lib.hid (Y1.out.2.2.2.2.2.2.2 HS.out.1 HS.out.2)
    go_wp2_with (refine wpList_load_row rfl 32 _ rfl k14 rfl 32 _ (0, 0) _ R1.out Try.underlying32 rfl (by kernel_rfl) ?_)
    refine (Query_p y1 ws A2 B2 C2 G c2 d2 e2 g w6 M1.out (HW.out.keep hbel) S1.out.1 S1.out.2).mono ?_
    rintro r w7 ⟨⟨A3, c3, B3, d3, C3, e3, F3, f3, rfl, hm, ho⟩, hb⟩
    obtain ⟨q1, q2, y2, q3, q4⟩ := Q2.out
    rw [Y1.out.1.nx, Y1.out.1.out, Y1.out.1.S] at q2
    rw [q3] at hm ⊢
    rw [q2] at ho ⊢
    rw [q1]
    have M2 := Lib.hid hm
    have O2 := Lib.hid (show Rd w7 F3 (outsL x.nx x.out x.S ws) from ho)
    have Y2 := Lib.hid q4
    clear hm ho q1 q2 q3 q4 Q2
    replace R1 := Lib.hid (R1.out.keep R1.out.lt hb)
    replace BMx := Lib.hid (BMx.out.keep hb)
    replace BLx := Lib.hid (BLx.out.keep hb)
    replace OV := Lib.hid (OV.out.keep hb)
    replace OW := Lib.hid (OW.out.keep hb)
    replace O1 := Lib.hid (O1.out.keep hb)
    replace hbel := below_seq hbel hb
    clear hb
    clear M1
    go_upto_region 11 with fail
    generalize hwb : World.alloc _ _ = w8
    have hb : Below w7.heap.size w7 w8 := by rw [← hwb]; exact (Below.refl _ _).alloc (Nat.le_refl _) _
    have R2 : Hid (RowD w8 w7.heap.size 32 y2 A3 c3 B3 d3 C3 e3) := Lib.hid (by rw [← hwb]; exact Go.heap_alloc_new _ _)
    clear hwb
    replace R1 := Lib.hid (R1.out.keep R1.out.lt hb)
    replace BMx := Lib.hid (BMx.out.keep hb)
    replace BLx := Lib.hid (BLx.out.keep hb)
    replace OV := Lib.hid (OV.out.keep hb)
    replace OW := Lib.hid (OW.out.keep hb)
    replace O1 := Lib.hid (O1.out.keep hb)
    replace O2 := Lib.hid (O2.out.keep hb)
    replace M2 := Lib.hid (M2.out.keep hb)
    replace hbel := below_seq hbel hb
    clear hb
    generalize w7.heap.size = k17 at *
    have C1 := Lib.hid (cost_x OK.out HC.out.1)
    have C2x := Lib.hid (cost_x OK.out HC.out.2)
    obtain ⟨l0, l1⟩ := BLx.out
    go_wp2_with fail
    clear l0 l1
    refine (Cost_p x.step vs x.rs C F e f w8 (HM.out.keep hbel).step (HV.out.keep hbel)).mono ?_
    rintro r w9 ⟨rfl, hb⟩
    rw [show coN x.step x.rs vs = x.rs + costL x.step vs from C1.out.2, show coE x.step x.rs vs = 0 from C1.out.1]
    replace R1 := Lib.hid (R1.out.keep R1.out.lt hb)
    replace R2 := Lib.hid (R2.out.keep R2.out.lt hb)
    replace BMx := Lib.hid (BMx.out.keep hb)
    replace BLx := Lib.hid (BLx.out.keep hb)
    replace OV := Lib.hid (OV.out.keep hb)
    replace OW := Lib.hid (OW.out.keep hb)
    replace O1 := Lib.hid (O1.out.keep hb)
    replace O2 := Lib.hid (O2.out.keep hb)
    replace M2 := Lib.hid (M2.out.keep hb)
    replace hbel := below_seq hbel hb
    clear hb
    obtain ⟨l0, l1⟩ := BLx.out
    go_wp2_with fail
    clear l0 l1
    refine (Cost_p x.step ws x.rs C G e g w9 (HM.out.keep hbel).step (HW.out.keep hbel)).mono ?_
    rintro r w10 ⟨rfl, hb⟩
    rw [show coN x.step x.rs ws = x.rs + costL x.step ws from C2x.out.2, show coE x.step x.rs ws = 0 from C2x.out.1]
    replace R1 := Lib.hid (R1.out.keep R1.out.lt hb)
    replace R2 := Lib.hid (R2.out.keep R2.out.lt hb)
    replace BMx := Lib.hid (BMx.out.keep hb)
    replace OV := Lib.hid (OV.out.keep hb)
    replace OW := Lib.hid (OW.out.keep hb)
    replace O1 := Lib.hid (O1.out.keep hb)
    replace O2 := Lib.hid (O2.out.keep hb)
    replace M2 := Lib.hid (M2.out.keep hb)
    replace hbel := below_seq hbel hb
    clear hb
    clear BLx
    obtain ⟨m0, m1, m2, m3⟩ := BMx.out
    go_wp2_with fail
    clear m0 m1 m2 m3
    refine (from_x (newX x) OK.out ws A B G c d g w10 (HM.out.keep hbel).nx (HM.out.keep hbel).out (HW.out.keep hbel)).mono ?_
    rintro r w11 ⟨⟨G3, g3, rfl, _⟩, hb⟩
    rw [show frS (newX x).I (newX x).nx (newX x).S ws = endL x.nx x.S ws from if_pos HC.out.2, show checkE (newX x).I ws = 0 from HC.out.2]
    replace R1 := Lib.hid (R1.out.keep R1.out.lt hb)
    replace R2 := Lib.hid (R2.out.keep R2.out.lt hb)
    replace BMx := Lib.hid (BMx.out.keep hb)
    replace OV := Lib.hid (OV.out.keep hb)
    replace OW := Lib.hid (OW.out.keep hb)
    replace O1 := Lib.hid (O1.out.keep hb)
    replace O2 := Lib.hid (O2.out.keep hb)
    replace M2 := Lib.hid (M2.out.keep hb)
    replace hbel := below_seq hbel hb
    clear hb
    go_wp2_with fail
    refine (same_yes (xs := outsL x.nx x.out x.S vs) rfl O1.out OV.out).mono ?_
    rintro r w12 ⟨rfl, n1, hn1⟩
    have hb : Below w11.heap.size w11 w12 := by rw [hn1]; exact below_drewN' (Below.refl _ _) n1
    replace R1 := Lib.hid (R1.out.keep R1.out.lt hb)
    replace R2 := Lib.hid (R2.out.keep R2.out.lt hb)
    replace BMx := Lib.hid (BMx.out.keep hb)
    replace OW := Lib.hid (OW.out.keep hb)
    replace O2 := Lib.hid (O2.out.keep hb)
    replace M2 := Lib.hid (M2.out.keep hb)
    replace hbel := below_seq hbel hb
    clear hb
    clear hn1 O1 OV
    go_wp2_with fail
    refine (same_yes (xs := outsL x.nx x.out x.S ws) rfl O2.out OW.out).mono ?_
    rintro r w13 ⟨rfl, n2, hn2⟩
    have hb : Below w12.heap.size w12 w13 := by rw [hn2]; exact below_drewN' (Below.refl _ _) n2
    replace R1 := Lib.hid (R1.out.keep R1.out.lt hb)
    replace R2 := Lib.hid (R2.out.keep R2.out.lt hb)
    replace BMx := Lib.hid (BMx.out.keep hb)
    replace M2 := Lib.hid (M2.out.keep hb)
    replace hbel := below_seq hbel hb
    clear hb
    clear hn2 O2 OW
    have T2 := Lib.hid (times_2 Y1.out Y2.out OK.out HC.out.1 HC.out.2 hl1n hl2n)
    have t14 := R1.out.box.c14
    rw [TT.out.1] at t14
    have c0 := R2.out.box.c0
    have c1x := R2.out.box.c1
    have c2x := R2.out.box.c2
    have c3x := R2.out.box.c3
    have c4 := R2.out.box.c4
    have c5 := R2.out.box.c5
    have c12 := R2.out.box.c12
    have c13 := R2.out.box.c13
    have c14 := R2.out.box.c14
    rw [Y2.out.1.I, show (nextR y1).I = x.I from Y1.out.1.I] at c0
    rw [Y2.out.1.S, show (nextR y1).S = x.S from Y1.out.1.S] at c1x
    rw [Y2.out.1.nx, show (nextR y1).nx = x.nx from Y1.out.1.nx] at c2x
    rw [Y2.out.1.out, show (nextR y1).out = x.out from Y1.out.1.out] at c3x
    rw [T2.out.1] at c4
    rw [Y2.out.2.1] at c5
    rw [T2.out.2.1] at c12
    rw [T2.out.2.2.1] at c13
    rw [T2.out.2.2.2.1] at c14
    have MN := Lib.hid (show RdM .i64 w13 A3 x.nx by have := M2.out.nx; rwa [Y2.out.1.nx, show (nextR y1).nx = x.nx from Y1.out.1.nx] at this)
    have MO := Lib.hid (show RdM .i64 w13 B3 x.out by have := M2.out.out; rwa [Y2.out.1.out, show (nextR y1).out = x.out from Y1.out.1.out] at this)
    obtain ⟨m0, m1, m2, m3⟩ := BMx.out
    have b1 := T2.out.2.2.2.2.1
    have b2 := T2.out.2.2.2.2.2
    have b3 := TT.out.2.2.2.1
    have b4 := TT.out.2.2.2.2
    clear TT T2 Y1 Y2 R1 R2 M2 S1 C1 C2x
    generalize x.rs + costL x.step vs = N1 at *
    generalize x.rs + costL x.step ws = N2 at *
    generalize endL x.nx x.S ws = T0 at *
    go_wp2_with fail
    refine (mach_yes x.I x.S x.nx x.out A3 B3 A B c3 d3 c d w13 MN.out MO.out (HM.out.keep hbel).nx (HM.out.keep hbel).out).mono ?_
    rintro r w14 ⟨rfl, hb⟩
    replace hbel := below_seq hbel hb
    clear hb t14 c0 c1x c2x c3x c4 c5 c12 c13 c14 m0 m1 m2 m3
    go_wp2_with fail
    refine (awake_t _).mono ?_
    rintro r wz ⟨rfl, hb⟩
    go_wp2_with fail
    go_ret
    exact ⟨rfl, below_seq hbel hb⟩
theorem deviceFaithful_walk (w : World) (a0 a1 : Int) (A2 : Option Addr) (c2 : Nat) (x2 : List (List Int)) (A3 : Option Addr) (c3 : Nat) (x3 : List (List Int)) (A4 : Option Addr) (c4 : Nat) (x4 : List Int) (a5 a6 : Int) (A7 : Option Addr) (c7 : Nat) (x7 : List Int) (A8 : Option Addr) (c8 : Nat) (x8 : List Int)
    (_ : (Lit.int .i64 a0).wf = true) (_ : (Lit.int .i64 a1).wf = true) (r2 : RdM .i64 w A2 x2) (_ : WfM .i64 x2) (r3 : RdM .i64 w A3 x3) (_ : WfM .i64 x3) (r4 : RdK .i64 w A4 x4) (_ : Wf .i64 x4) (_ : (Lit.int .i64 a5).wf = true) (hs : (Lit.int .u64 a6).wf = true) (r7 : RdK .i64 w A7 x7) (_ : Wf .i64 x7) (r8 : RdK .i64 w A8 x8) (_ : Wf .i64 x8) :
    Calls Try.prog 7 #[.agg #[.int .i64 a0, .int .i64 a1, .slice A2 x2.length c2, .slice A3 x3.length c3, .slice A4 x4.length c4, .int .i64 a5, .int .u64 a6, .slice A7 x7.length c7, .slice A8 x8.length c8]] w fun r w' => r = .returned (.bool true) ∧ Below w.heap.size w w' :=
  faithful_w ⟨a0, a1, x2, x3, 0, false, x4, a5, 0, 0, 0, a6, 0, 0, 0⟩ x7 x8 A2 A3 A4 A7 A8 c2 c3 c4 c7 c8 w ⟨r2, r3, r4⟩ r7 r8 (u64_bd hs).1 (u64_bd hs).2 rfl rfl rfl
end Go.Proofs.Ytpoppadihbgbgaa
