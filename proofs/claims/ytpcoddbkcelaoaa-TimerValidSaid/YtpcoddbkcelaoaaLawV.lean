/- The walk of the statement TimerValid. -/
import Derived.Test.YtpcoddbkcelaoaaLawR
namespace Go.Proofs.Ytpcoddbkcelaoaa
open Go.RowKit

/-- which timers run in which states -/
def actE (m : Tm.M) : List (List Bool) := if Tm.validE m ≠ 0 then [] else Tm.actT (Tm.reach m m.I.toNat m.T.toNat m.S.toNat) m.nx.length m.T.toNat
def ActQ (x : Int) (L : List (List Bool)) (w : World) (r : Ending) (w' : World) : Prop :=
  (∃ X c, r = .returned (.tuple #[.slice X L.length c, .int .i64 x]) ∧ RdBB w' X L) ∧ Below w.heap.size w w'
theorem ActQ.of {m : Tm.M} {w w' : World} {r : Ending} {x : Int} {L : List (List Bool)} (hx : Tm.validE m = x) (hL : actE m = L) (h : ActP m w r w') : ActQ x L w r w' := by
  subst hx hL
  obtain ⟨⟨v, hv, ho⟩, hb⟩ := h
  rcases ho with ⟨h0, rfl⟩ | ⟨k, T, S, X, c, hok, rfl, hr⟩
  · have e : actE m = [] := by unfold actE; rw [if_pos h0]
    rw [e]
    exact ⟨⟨none, 0, hv, ⟨by simp, fun h => absurd h (by simp)⟩⟩, hb⟩
  · have e : actE m = Tm.actT (Tm.reach m k T S) m.nx.length T := by
      unfold actE
      rw [if_neg (by simp [hok.valid]), hok.I, hok.T', hok.S']; rfl
    have hl : (Tm.actT (Tm.reach m k T S) m.nx.length T).length = m.nx.length := by simp [Tm.actT]
    rw [e]
    exact ⟨⟨X, c, by rw [hl]; exact hv, hr⟩, hb⟩
section
variable {m : Tm.M} {A B C : Option Addr} {w : World} {x : Int} {L : List (List Bool)} (c d e : Nat)
theorem act_pE (hx : Tm.validE m = x) (hL : actE m = L) (hR : RdT w A B C m) :
    Calls Try.prog 11 #[.agg #[.int .i64 m.I, .int .i64 m.T, .int .i64 m.S, .slice A m.nx.length c, .slice B m.out.length d, .slice C m.set.length e]] w (ActQ x L w) :=
  (active_p m A B C c d e w hR).mono fun _ _ h => ActQ.of hx hL h
theorem act_rE (hx : Tm.validE m = x) (hL : actE m = L) (hR : RdT w A B C m) :
    Calls Try.prog 12 #[.agg #[.int .i64 m.I, .int .i64 m.T, .int .i64 m.S, .slice A m.nx.length c, .slice B m.out.length d, .slice C m.set.length e]] w (ActQ x L w) :=
  (active_r m A B C c d e w hR).mono fun _ _ h => ActQ.of hx hL h
theorem tvalid_q (hR : RdT w A B C m) (hx : Tm.validE m = x) :
    Calls Try.prog 13 #[.agg #[.int .i64 m.I, .int .i64 m.T, .int .i64 m.S, .slice A m.nx.length c, .slice B m.out.length d, .slice C m.set.length e]] w fun r w' => r = .returned (.int .i64 x) ∧ Below w.heap.size w w' := by
  subst hx; exact tvalid_p m A B C c d e w hR
theorem tvalid_qr (hR : RdT w A B C m) (hx : Tm.validE m = x) :
    Calls Try.prog 14 #[.agg #[.int .i64 m.I, .int .i64 m.T, .int .i64 m.S, .slice A m.nx.length c, .slice B m.out.length d, .slice C m.set.length e]] w fun r w' => r = .returned (.int .i64 x) ∧ Below w.heap.size w w' := by
  subst hx; exact tvalid_r m A B C c d e w hR
end
set_option maxRecDepth 100000 in
set_option maxHeartbeats 4000000 in
theorem timerValid_core (m : Tm.M) (A B C : Option Addr) (c d e : Nat) (w : World) (hR : RdT w A B C m) :
    Calls Try.prog 3 #[.agg #[.int .i64 m.I, .int .i64 m.T, .int .i64 m.S, .slice A m.nx.length c, .slice B m.out.length d, .slice C m.set.length e]] w fun e w' => e = .returned (.bool true) ∧ Below w.heap.size w w' := by
  obtain ⟨b, hs⟩ : ∃ b, small m = b := ⟨_, rfl⟩
  have HSM := Lib.hid hs
  clear hs
  obtain ⟨x, hE⟩ : ∃ x, Tm.validE m = x := ⟨_, rfl⟩
  have HX := Lib.hid hE
  clear hE
  obtain ⟨L, hL⟩ : ∃ L, actE m = L := ⟨_, rfl⟩
  have HL := Lib.hid hL
  clear hL
  go_enter Try.func3, Try.ntmps3
  go_upto_region 1 with fail
  generalize hwb : World.alloc _ _ = w0
  have BX : Hid (Blk w0 w.heap.size 25 (tc m A c B d C e)) := Lib.hid (by rw [← hwb]; exact Blk.new _ _ _)
  have HBL : Hid (Below w.heap.size w w0) := Lib.hid (by rw [← hwb]; exact (Below.refl _ _).alloc (Nat.le_refl _) _)
  clear hwb
  have HR := Lib.hid (hR.keep HBL.out)
  clear hR
  go_wp2_with (first | (refine wpList_load_row rfl 25 _ rfl w.heap.size rfl 25 (tc m A c B d C e) (0, 0) _ BX.out Try.underlying25 rfl (by kernel_rfl) ?_))
  refine (small_eq c d e HR.out HSM.out).mono ?_
  rintro r w1 ⟨rfl, hb⟩
  replace BX := Lib.hid (BX.out.keep hb)
  replace HR := Lib.hid (HR.out.keep hb)
  replace HBL := Lib.hid (below_seq HBL.out hb)
  clear hb w0
  cases b with
  | false =>
    go_wp2_with fail
    refine (awake_p _).mono ?_
    rintro r w2 ⟨rfl, hb⟩
    replace HBL := Lib.hid (below_seq HBL.out hb)
    go_wp2_with fail
    go_ret
    exact ⟨rfl, HBL.out⟩
  | true =>
    go_wp2_with (first | (refine wpList_load_row rfl 25 _ rfl w.heap.size rfl 25 (tc m A c B d C e) (0, 0) _ BX.out Try.underlying25 rfl (by kernel_rfl) ?_))
    refine (act_pE c d e HX.out HL.out HR.out).mono ?_
    rintro r w2 ⟨⟨X, cx, rfl, hX⟩, hb⟩
    have HT1 := Lib.hid hX
    replace BX := Lib.hid (BX.out.keep hb)
    replace HR := Lib.hid (HR.out.keep hb)
    replace HBL := Lib.hid (below_seq HBL.out hb)
    clear hb hX w1
    go_wp2_with (first | (refine wpList_load_row rfl 25 _ rfl w.heap.size rfl 25 (tc m A c B d C e) (0, 0) _ BX.out Try.underlying25 rfl (by kernel_rfl) ?_))
    refine (act_rE c d e HX.out HL.out HR.out).mono ?_
    rintro r w5 ⟨⟨Y, cy, rfl, hY⟩, hb⟩
    have HT2 := Lib.hid hY
    replace HT1 := Lib.hid (HT1.out.keep hb)
    replace BX := Lib.hid (BX.out.keep hb)
    replace HR := Lib.hid (HR.out.keep hb)
    replace HBL := Lib.hid (below_seq HBL.out hb)
    clear hb hY w2
    go_upto_region 5 with fail
    refine wp_region_held_drew (S := fun wx => Below w5.heap.size w5 wx) (by kernel_rfl) ((Below.refl _ _).drew) (fun hS => ?_)
    refine takeH (i := 0) (d := some 21) (v := .agg #[.int .i64 m.I, .int .i64 m.T, .int .i64 m.S, .slice A m.nx.length c, .slice B m.out.length d, .slice C m.set.length e]) rfl rfl (by kernel_rfl) (by kernel_rfl) (by kernel_rfl) (fun _ _ _ h => h) (yieldsIf_load_any (by rfl) 25 _ rfl ⟨w.heap.size, 0, none⟩ rfl [.int .i64 m.I, .int .i64 m.T, .int .i64 m.S, .slice A m.nx.length c, .slice B m.out.length d, .slice C m.set.length e] _ (fun wx hSx => ((Blk.keep BX.out hSx).part 0 _ rfl)) Try.underlying25 rfl (by kernel_rfl)) hS ?_
    simp only [Act.put, List.setIfInBounds_toArray, List.set_cons_zero, List.set_cons_succ]
    refine takeH (i := 2) (d := some 23) (v := .agg #[.int .i64 m.I, .int .i64 m.T, .int .i64 m.S, .slice A m.nx.length c, .slice B m.out.length d, .slice C m.set.length e]) rfl rfl (by kernel_rfl) (by kernel_rfl) (by kernel_rfl) (fun _ _ _ h => h) (yieldsIf_load_any (by rfl) 25 _ rfl ⟨w.heap.size, 0, none⟩ rfl [.int .i64 m.I, .int .i64 m.T, .int .i64 m.S, .slice A m.nx.length c, .slice B m.out.length d, .slice C m.set.length e] _ (fun wx hSx => ((Blk.keep BX.out hSx).part 0 _ rfl)) Try.underlying25 rfl (by kernel_rfl)) hS ?_
    simp only [Act.put, List.setIfInBounds_toArray, List.set_cons_zero, List.set_cons_succ]
    generalize hwa : World.drew _ = wa at hS ⊢
    clear hwa
    have HSa := Lib.hid hS
    clear hS
    refine wpAnyH_ready (rs := [1]) (by kernel_rfl) (by simp) ?_
    refine AllReadyH.cons rfl (fun K hK => ?_) AllReadyH.nil
    rw [if_pos (by rfl)]
    try go_simp
    refine (tvalid_q c d e (HR.out.keep HSa.out) HX.out).mono ?_
    rintro r wv ⟨rfl, hb⟩
    refine hK.out _ _ (below_seq HSa.out hb) (fun hS2 => ?_)
    clear hK K
    try simp only [Act.put, List.setIfInBounds_toArray, List.set_cons_zero, List.set_cons_succ]
    replace HSa := Lib.hid hS2
    clear hS2 hb wa
    rename World => wa
    refine wpAnyH_ready (rs := [3]) (by kernel_rfl) (by simp) ?_
    refine AllReadyH.cons rfl (fun K hK => ?_) AllReadyH.nil
    rw [if_pos (by rfl)]
    try go_simp
    refine (tvalid_qr c d e (HR.out.keep HSa.out) HX.out).mono ?_
    rintro r wv ⟨rfl, hb⟩
    refine hK.out _ _ (below_seq HSa.out hb) (fun hS2 => ?_)
    clear hK K
    try simp only [Act.put, List.setIfInBounds_toArray, List.set_cons_zero, List.set_cons_succ]
    replace HSa := Lib.hid hS2
    clear hS2 hb wa
    rename World => wa
    refine takeH (i := 4) (d := some 25) (v := ?_) rfl rfl (by kernel_rfl) (by kernel_rfl) (by kernel_rfl) (fun _ _ _ h => h) (Or.inl ⟨by rfl, ?_⟩) HSa.out ?_
    rotate_left
    · intro wx hSx; clear hSx; first | (go_simp; done) | (go_simp; with_reducible rfl)
    simp only [Act.put, List.setIfInBounds_toArray, List.set_cons_zero, List.set_cons_succ]
    refine takeH (i := 5) (d := some 26) (v := ?_) rfl rfl (by kernel_rfl) (by kernel_rfl) (by kernel_rfl) (fun _ _ _ h => h) (Or.inl ⟨by rfl, ?_⟩) HSa.out ?_
    rotate_left
    · intro wx hSx; clear hSx; first | (go_simp; done) | (go_simp; with_reducible rfl)
    simp only [Act.put, List.setIfInBounds_toArray, List.set_cons_zero, List.set_cons_succ]
    refine takeH (i := 6) (d := some 27) (v := ?_) rfl rfl (by kernel_rfl) (by kernel_rfl) (by kernel_rfl) (fun _ _ _ h => h) (Or.inl ⟨by rfl, ?_⟩) HSa.out ?_
    rotate_left
    · intro wx hSx; clear hSx; first | (go_simp; done) | (go_simp; with_reducible rfl)
    simp only [Act.put, List.setIfInBounds_toArray, List.set_cons_zero, List.set_cons_succ]
    refine takeH (i := 7) (d := some 28) (v := ?_) rfl rfl (by kernel_rfl) (by kernel_rfl) (by kernel_rfl) (fun _ _ _ h => h) (Or.inl ⟨by rfl, ?_⟩) HSa.out ?_
    rotate_left
    · intro wx hSx; clear hSx; first | (go_simp; done) | (go_simp; with_reducible rfl)
    simp only [Act.put, List.setIfInBounds_toArray, List.set_cons_zero, List.set_cons_succ]
    refine wpAnyH_ready (rs := [8]) (by kernel_rfl) (by simp) ?_
    refine AllReadyH.cons rfl (fun K hK => ?_) AllReadyH.nil
    rw [if_pos (by rfl)]
    try go_simp
    refine (sbb_b rfl (HT1.out.keep HSa.out) (HT2.out.keep HSa.out)).mono ?_
    rintro r wv ⟨rfl, hb⟩
    refine hK.out _ _ (below_seq HSa.out hb) (fun hS2 => ?_)
    clear hK K
    try simp only [Act.put, List.setIfInBounds_toArray, List.set_cons_zero, List.set_cons_succ]
    replace HSa := Lib.hid hS2
    clear hS2 hb wa
    rename World => wa
    refine takeH (i := 9) (d := some 30) (v := ?_) rfl rfl (by kernel_rfl) (by kernel_rfl) (by kernel_rfl) (fun _ _ _ h => h) (Or.inl ⟨by rfl, ?_⟩) HSa.out ?_
    rotate_left
    · intro wx hSx; clear hSx; first | (go_simp; done) | (go_simp; with_reducible rfl)
    simp only [Act.put, List.setIfInBounds_toArray, List.set_cons_zero, List.set_cons_succ]
    refine takeH (i := 10) (d := some 31) (v := ?_) rfl rfl (by kernel_rfl) (by kernel_rfl) (by kernel_rfl) (fun _ _ _ h => h) (Or.inl ⟨by rfl, ?_⟩) HSa.out ?_
    rotate_left
    · intro wx hSx; clear hSx; first | (go_simp; done) | (go_simp; with_reducible rfl)
    simp only [Act.put, List.setIfInBounds_toArray, List.set_cons_zero, List.set_cons_succ]
    refine takeH (i := 11) (d := some 32) (v := ?_) rfl rfl (by kernel_rfl) (by kernel_rfl) (by kernel_rfl) (fun _ _ _ h => h) (Or.inl ⟨by rfl, ?_⟩) HSa.out ?_
    rotate_left
    · intro wx hSx; clear hSx; first | (go_simp; done) | (go_simp; with_reducible rfl)
    simp only [Act.put, List.setIfInBounds_toArray, List.set_cons_zero, List.set_cons_succ]
    refine takeH (i := 12) (d := some 33) (v := ?_) rfl rfl (by kernel_rfl) (by kernel_rfl) (by kernel_rfl) (fun _ _ _ h => h) (Or.inl ⟨by rfl, ?_⟩) HSa.out ?_
    rotate_left
    · intro wx hSx; clear hSx; first | (go_simp; done) | (go_simp; with_reducible rfl)
    simp only [Act.put, List.setIfInBounds_toArray, List.set_cons_zero, List.set_cons_succ]
    refine takeH (i := 13) (d := some 34) (v := ?_) rfl rfl (by kernel_rfl) (by kernel_rfl) (by kernel_rfl) (fun _ _ _ h => h) (Or.inl ⟨by rfl, ?_⟩) HSa.out ?_
    rotate_left
    · intro wx hSx; clear hSx; first | (go_simp; done) | (go_simp; with_reducible rfl)
    simp only [Act.put, List.setIfInBounds_toArray, List.set_cons_zero, List.set_cons_succ]
    refine takeH (i := 14) (d := some 35) (v := ?_) rfl rfl (by kernel_rfl) (by kernel_rfl) (by kernel_rfl) (fun _ _ _ h => h) (Or.inl ⟨by rfl, ?_⟩) HSa.out ?_
    rotate_left
    · intro wx hSx; clear hSx; first | (go_simp; done) | (go_simp; with_reducible rfl)
    simp only [Act.put, List.setIfInBounds_toArray, List.set_cons_zero, List.set_cons_succ]
    refine takeH (i := 15) (d := some 36) (v := ?_) rfl rfl (by kernel_rfl) (by kernel_rfl) (by kernel_rfl) (fun _ _ _ h => h) (Or.inl ⟨by rfl, ?_⟩) HSa.out ?_
    rotate_left
    · intro wx hSx; clear hSx; first | (go_simp; done) | (go_simp; with_reducible rfl)
    simp only [Act.put, List.setIfInBounds_toArray, List.set_cons_zero, List.set_cons_succ]
    refine wpAnyH_ready (rs := [16]) (by kernel_rfl) (by simp) ?_
    refine AllReadyH.cons rfl (fun K hK => ?_) AllReadyH.nil
    rw [if_pos (by rfl)]
    try go_simp
    refine (awake_p wa).mono ?_
    rintro r wv ⟨rfl, hb⟩
    refine hK.out _ _ (below_seq HSa.out hb) (fun hS2 => ?_)
    clear hK K
    try simp only [Act.put, List.setIfInBounds_toArray, List.set_cons_zero, List.set_cons_succ]
    replace HSa := Lib.hid hS2
    clear hS2 hb wa
    rename World => wa
    refine takeH (i := 17) (d := some 38) (v := ?_) rfl rfl (by kernel_rfl) (by kernel_rfl) (by kernel_rfl) (fun _ _ _ h => h) (Or.inl ⟨by rfl, ?_⟩) HSa.out ?_
    rotate_left
    · intro wx hSx; clear hSx; first | (go_simp; done) | (go_simp; with_reducible rfl)
    simp only [Act.put, List.setIfInBounds_toArray, List.set_cons_zero, List.set_cons_succ]
    refine takeH (i := 18) (d := some 2) (v := ?_) rfl rfl (by kernel_rfl) (by kernel_rfl) (by kernel_rfl) (fun _ _ _ h => h) (Or.inl ⟨by rfl, ?_⟩) HSa.out ?_
    rotate_left
    · intro wx hSx; clear hSx; first | (go_simp; done) | (go_simp; with_reducible rfl)
    simp only [Act.put, List.setIfInBounds_toArray, List.set_cons_zero, List.set_cons_succ]
    refine wpAnyH_done (by kernel_rfl) ?_ _
    go_wp2_with fail
    go_ret
    exact ⟨rfl, below_seq HBL.out HSa.out⟩
theorem timerValid_walk (w : World) (a0 a1 a2 : Int) (A3 : Option Addr) (c3 : Nat) (x3 : List (List Int)) (A4 : Option Addr) (c4 : Nat) (x4 : List (List Int)) (A5 : Option Addr) (c5 : Nat) (x5 : List (List (Int × Int)))
    (_ : (Lit.int .i64 a0).wf = true) (_ : (Lit.int .i64 a1).wf = true) (_ : (Lit.int .i64 a2).wf = true) (r3 : RdM .i64 w A3 x3) (_ : WfM .i64 x3) (r4 : RdM .i64 w A4 x4) (_ : WfM .i64 x4) (r5 : RdP w A5 x5) :
    Calls Try.prog 3 #[.agg #[.int .i64 a0, .int .i64 a1, .int .i64 a2, .slice A3 x3.length c3, .slice A4 x4.length c4, .slice A5 x5.length c5]] w fun e w' => e = .returned (.bool true) ∧ Below w.heap.size w w' :=
  timerValid_core ⟨a0, a1, a2, x3, x4, x5⟩ A3 A4 A5 c3 c4 c5 w ⟨r3, r4, r5⟩
end Go.Proofs.Ytpcoddbkcelaoaa
