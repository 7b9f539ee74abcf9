/- The reference's step from a configuration to the next. -/
import Derived.Test.YtpcoddbkcelaoaaAftP
namespace Go.Proofs.Ytpcoddbkcelaoaa
open Go.RowKit

abbrev bits (r : List Bool) : Nat → Value := fun x => .bool (r.getD x false)
theorem rowIs_lt {w : World} {g t n : Nat} {f : Nat → Value} (h : w.rowIs g t n f) : g < w.heap.size := by
  obtain ⟨c, hc, _⟩ := h
  rcases Nat.lt_or_ge g w.heap.size with hlt | hge
  · exact hlt
  · rw [Array.getElem?_eq_none hge] at hc; cases hc
theorem rowIs_keep {w w' : World} {g t n : Nat} {f : Nat → Value} (h : w.rowIs g t n f) (hb : Below w.heap.size w w') : w'.rowIs g t n f := h.of_block (hb.block g (rowIs_lt h))
theorem rowIs_ne {w : World} {g t n g' t' : Nat} {f : Nat → Value} {cs : Array Value} (h : w.rowIs g t n f) (k : Blk w g' t' cs) (hne : t ≠ t') : g ≠ g' := by
  rintro rfl
  obtain ⟨c, hc, _⟩ := h
  unfold Blk at k
  rw [hc] at k
  injection k with k
  injection k with _ ht
  exact hne ht
theorem rowIs_far {w : World} {g t n g' : Nat} {f : Nat → Value} {cs : Array Value} (h : w.rowIs g t n f) (hne : g ≠ g') : (w.setRow g' cs).rowIs g t n f := by
  refine h.of_block ?_
  simp only [World.setRow, Array.getElem?_modify]
  rw [if_neg (Ne.symm hne)]
theorem aft_idle {m : Tm.M} {k : Nat} {c : Tm.Cfg} {i : Nat} (ha : Tm.acts m k c i = false) : Tm.aftC m k c i = (Tm.nxA m c.1 i, Tm.run1 k c i) ∧ Tm.aftN m k c i = 0 := by
  unfold Tm.aftC Tm.aftN; rw [ha]; exact ⟨rfl, rfl⟩
theorem aft_act {m : Tm.M} {k : Nat} {c : Tm.Cfg} {i : Nat} (ha : Tm.acts m k c i = true) : Tm.aftC m k c i = (Tm.nxA m c.1 i, (Tm.run1 k c i).set (Tm.setA m c.1 i).1.toNat (decide (0 < (Tm.setA m c.1 i).2))) ∧ Tm.aftN m k c i = 1 + (Tm.setA m c.1 i).1 * 1001 + (Tm.setA m c.1 i).2 := by
  unfold Tm.aftC Tm.aftN; rw [ha]; exact ⟨rfl, rfl⟩
/-- what 'After' hands back -/
def AftP (w : World) (T : Nat) (c : Tm.Cfg) (n : Int) (r : Ending) (w' : World) : Prop :=
  (∃ g, r = .returned (.tuple #[.agg #[.int .i64 (c.1 : Nat), .slice (some ⟨g, 0, none⟩) T T], .int .i64 n]) ∧ w'.rowIs g 4 T (bits c.2) ∧ w.heap.size ≤ g) ∧ Below w.heap.size w w'
theorem set_bits {w : World} {g T n : Nat} {r : List Bool} (h : w.rowIs g 4 T (bits r)) (hr : r.length = T) (hn : n < T) (b : Bool) : (w.setCell ⟨g, n, none⟩ (.bool b)).rowIs g 4 T (bits (r.set n b)) := by
  refine (h.set n _).congr fun x hx => ?_
  show (if x = n then _ else _) = Value.bool ((r.set n b).getD x false)
  rw [Tm.getD_set]
  by_cases e : x = n
  · subst e; rw [if_pos rfl, if_pos ⟨rfl, by omega⟩]
  · rw [if_neg e, if_neg (by omega)]
set_option maxRecDepth 100000 in
set_option maxHeartbeats 8000000 in
theorem after_r (m : Tm.M) (k T S : Nat) (cf : Tm.Cfg) (i : Nat) (A B C R : Option Addr) (c d e r0 : Nat) (w : World) (hm : Tm.Ok m k T S) (hc : Tm.CfgOk m.nx.length T cf) (hi : i < k + T) (hR : RdT w A B C m) (hB : RdB w R cf.2) :
    Calls Try.prog 38 #[.agg #[.int .i64 m.I, .int .i64 m.T, .int .i64 m.S, .slice A m.nx.length c, .slice B m.out.length d, .slice C m.set.length e], .agg #[.int .i64 (cf.1 : Nat), .slice R T r0], .int .i64 i] w (AftP w T (Tm.aftC m k cf i) (Tm.aftN m k cf i)) := by
  have HM := Lib.hid hm
  have HC := Lib.hid hc
  have h4 := hm.t4
  have h64 := hm.k64
  have h128 := hm.n128
  rw [hm.I, hm.T', hm.S']
  clear hm hc
  go_enter Try.func38, Try.ntmps38
  go_upto_region 1 with fail
  generalize hwb : World.alloc _ _ = w0
  have BX : Hid (BoxT w0 w.heap.size m A c B d C e) := Lib.hid (boxT (by rw [← hwb]; unfold tc; rw [HM.out.I, HM.out.T', HM.out.S']; exact ((Blk.new _ _ _).alloc _).alloc _))
  have P4 : Hid (Blk w0 (w.heap.size + 1) 74 #[.int .i64 (cf.1 : Nat), .slice R T r0]) := Lib.hid (by rw [← hwb]; exact (blk_new1 _ _ _ _).alloc _)
  have G6 : Hid (Blk w0 (w.heap.size + 2) 74 #[.int .i64 0, .slice none 0 0]) := Lib.hid (by rw [← hwb]; exact blk_new2 _ _ _ _ _)
  have HBL : Hid (Below w.heap.size w w0) := Lib.hid (by rw [← hwb]; exact (((Below.refl _ _).alloc (Nat.le_refl _) _).alloc (by rw [alloc_size]; omega) _).alloc (by rw [alloc_size, alloc_size]; omega) _)
  have HSZ : Hid (w.heap.size + 2 < w0.heap.size) := Lib.hid G6.out.lt
  have HR := Lib.hid (hR.keep HBL.out)
  have HRB := Lib.hid (hB.keep HBL.out)
  clear hwb hR hB
  have hs := HC.out.1
  have hcl := HC.out.2
  obtain ⟨ad, A1, c1, xs, rfl, hx, cx, rx⟩ := HR.out.nx.at_ hs
  obtain ⟨gd, C1, e1, ss, rfl, hsx, cs, rs⟩ := HR.out.set.at_ (i := cf.1) (by rw [HM.out.e]; exact hs)
  have hxl : i < xs.length := by rw [← hx, HM.out.rowN _ hs]; exact hi
  have hsl : i < ss.length := by rw [← hsx, HM.out.rowS _ hs]; exact hi
  obtain ⟨ad1, t, rfl, ht, ct⟩ := rx.at_ hxl
  obtain ⟨gd1, a, b, rfl, hab, ca, cb⟩ := rs.at_ hsl
  obtain rfl : t = (Tm.nxA m cf.1 i : Int) := by rw [← ht, ← hx]; exact (HM.out.nx1 hs hi).2
  have hset : Tm.setA m cf.1 i = (a, b) := by unfold Tm.setA; rw [hsx, hab]
  have hcell := HM.out.cell cf.1 i hs hi
  rw [hsx, hab] at hcell
  have HSE := Lib.hid hset
  have ha0 := hcell.a0
  have ha1 := hcell.a1
  have hb0 := hcell.b0
  have hb1 := hcell.b1
  have mx := rx.1
  have mnx := HR.out.nx.1
  have mse := HR.out.set.1
  have ms := rs.1
  have HCS := Lib.hid (And.intro cs (And.intro ca cb))
  have hsel : (cf.1 : Int) < (m.set.length : Int) := by rw [HM.out.e]; omega
  clear hx ht hsx hab hset hcell rx rs cs ca cb
  generalize hq : Tm.nxA m cf.1 i = q at *
  have HQ := Lib.hid hq
  clear hq
  have c3 := BX.out.c3
  have p0 : w0.cell? ⟨w.heap.size + 1, 0, none⟩ = some (.int .i64 (cf.1 : Nat)) := P4.out.cell 0
  have p1 : w0.cell? ⟨w.heap.size + 1, 1, none⟩ = some (.slice R T r0) := P4.out.cell 1
  have HCP : Hid (∀ wz, RdB wz R cf.2 → Calls Try.prog 44 #[.slice R T r0] wz fun e w' => e = .returned (.slice (some ⟨wz.heap.size, 0, none⟩) T T) ∧ w'.rowIs wz.heap.size 4 T (bits cf.2) ∧ Below wz.heap.size wz w') := Lib.hid (fun wz h => by have := copied_r R r0 cf.2 wz h (by omega); rw [hcl] at this; exact this)
  go_cut [8] (fun p wx => ∃ k8 g, p = .pointer (some ⟨k8, 0, none⟩) ∧ Blk wx k8 74 #[.int .i64 (q : Nat), .slice (some ⟨g, 0, none⟩) T T] ∧ wx.rowIs g 4 T (bits cf.2) ∧ w0.heap.size ≤ k8 ∧ w0.heap.size ≤ g ∧ Below w0.heap.size w0 wx)
  case first =>
    refine wp_region_held_drew (S := fun wx => Below w0.heap.size w0 wx) (by kernel_rfl) ((Below.refl _ _).drew) (fun hS => ?_)
    refine takeH (i := 0) (d := some 10) (v := ?_) rfl rfl (by kernel_rfl) (by kernel_rfl) (by kernel_rfl) (fun _ _ _ h => h) (Or.inl ⟨by rfl, ?_⟩) hS ?_
    rotate_left
    · intro wx hSx; clear hSx; first | (go_simp; done) | (go_simp; with_reducible rfl)
    simp only [Act.put, List.setIfInBounds_toArray, List.set_cons_zero, List.set_cons_succ]
    refine takeH (i := 1) (d := some 11) (v := ?_) rfl rfl (by kernel_rfl) (by kernel_rfl) (by kernel_rfl) (fun _ _ _ h => h) (Or.inl ⟨by rfl, ?_⟩) hS ?_
    rotate_left
    · intro wx hSx; have hSy : Below w0.heap.size w0 wx := hSx; have e0 := keep_cell hSy c3; have e1 := keep_cell hSy p0; have e2 := keep_cell hSy p1; have e3 := keep_cell hSy cx; have e4 := keep_cell hSy ct; clear hSy hSx; first | (go_simp; done) | (go_simp; with_reducible rfl)
    simp only [Act.put, List.setIfInBounds_toArray, List.set_cons_zero, List.set_cons_succ]
    refine takeH (i := 2) (d := some 12) (v := ?_) rfl rfl (by kernel_rfl) (by kernel_rfl) (by kernel_rfl) (fun _ _ _ h => h) (Or.inl ⟨by rfl, ?_⟩) hS ?_
    rotate_left
    · intro wx hSx; clear hSx; first | (go_simp; done) | (go_simp; with_reducible rfl)
    simp only [Act.put, List.setIfInBounds_toArray, List.set_cons_zero, List.set_cons_succ]
    refine takeH (i := 3) (d := some 13) (v := ?_) rfl rfl (by kernel_rfl) (by kernel_rfl) (by kernel_rfl) (fun _ _ _ h => h) (Or.inl ⟨by rfl, ?_⟩) hS ?_
    rotate_left
    · intro wx hSx; have hSy : Below w0.heap.size w0 wx := hSx; have e0 := keep_cell hSy c3; have e1 := keep_cell hSy p0; have e2 := keep_cell hSy p1; have e3 := keep_cell hSy cx; have e4 := keep_cell hSy ct; clear hSy hSx; first | (go_simp; done) | (go_simp; with_reducible rfl)
    simp only [Act.put, List.setIfInBounds_toArray, List.set_cons_zero, List.set_cons_succ]
    refine takeH (i := 4) (d := some 14) (v := ?_) rfl rfl (by kernel_rfl) (by kernel_rfl) (by kernel_rfl) (fun _ _ _ h => h) (Or.inl ⟨by rfl, ?_⟩) hS ?_
    rotate_left
    · intro wx hSx; clear hSx; first | (go_simp; done) | (go_simp; with_reducible rfl)
    simp only [Act.put, List.setIfInBounds_toArray, List.set_cons_zero, List.set_cons_succ]
    refine takeH (i := 5) (d := some 15) (v := ?_) rfl rfl (by kernel_rfl) (by kernel_rfl) (by kernel_rfl) (fun _ _ _ h => h) (Or.inl ⟨by rfl, ?_⟩) hS ?_
    rotate_left
    · intro wx hSx; have hSy : Below w0.heap.size w0 wx := hSx; have e0 := keep_cell hSy c3; have e1 := keep_cell hSy p0; have e2 := keep_cell hSy p1; have e3 := keep_cell hSy cx; have e4 := keep_cell hSy ct; clear hSy hSx; first | (go_simp; done) | (go_simp; with_reducible rfl)
    simp only [Act.put, List.setIfInBounds_toArray, List.set_cons_zero, List.set_cons_succ]
    refine takeH (i := 6) (d := some 16) (v := ?_) rfl rfl (by kernel_rfl) (by kernel_rfl) (by kernel_rfl) (fun _ _ _ h => h) (Or.inl ⟨by rfl, ?_⟩) hS ?_
    rotate_left
    · intro wx hSx; clear hSx; first | (go_simp; done) | (go_simp; with_reducible rfl)
    simp only [Act.put, List.setIfInBounds_toArray, List.set_cons_zero, List.set_cons_succ]
    refine takeH (i := 7) (d := some 17) (v := ?_) rfl rfl (by kernel_rfl) (by kernel_rfl) (by kernel_rfl) (fun _ _ _ h => h) (Or.inl ⟨by rfl, ?_⟩) hS ?_
    rotate_left
    · intro wx hSx; clear hSx; first | (go_simp; done) | (go_simp; with_reducible rfl)
    simp only [Act.put, List.setIfInBounds_toArray, List.set_cons_zero, List.set_cons_succ]
    refine takeH (i := 8) (d := some 18) (v := ?_) rfl rfl (by kernel_rfl) (by kernel_rfl) (by kernel_rfl) (fun _ _ _ h => h) (Or.inl ⟨by rfl, ?_⟩) hS ?_
    rotate_left
    · intro wx hSx; have hSy : Below w0.heap.size w0 wx := hSx; have e0 := keep_cell hSy c3; have e1 := keep_cell hSy p0; have e2 := keep_cell hSy p1; have e3 := keep_cell hSy cx; have e4 := keep_cell hSy ct; clear hSy hSx; first | (go_simp; done) | (go_simp; with_reducible rfl)
    simp only [Act.put, List.setIfInBounds_toArray, List.set_cons_zero, List.set_cons_succ]
    refine takeH (i := 9) (d := some 19) (v := ?_) rfl rfl (by kernel_rfl) (by kernel_rfl) (by kernel_rfl) (fun _ _ _ h => h) (Or.inl ⟨by rfl, ?_⟩) hS ?_
    rotate_left
    · intro wx hSx; clear hSx; first | (go_simp; done) | (go_simp; with_reducible rfl)
    simp only [Act.put, List.setIfInBounds_toArray, List.set_cons_zero, List.set_cons_succ]
    refine takeH (i := 10) (d := some 20) (v := ?_) rfl rfl (by kernel_rfl) (by kernel_rfl) (by kernel_rfl) (fun _ _ _ h => h) (Or.inl ⟨by rfl, ?_⟩) hS ?_
    rotate_left
    · intro wx hSx; have hSy : Below w0.heap.size w0 wx := hSx; have e0 := keep_cell hSy c3; have e1 := keep_cell hSy p0; have e2 := keep_cell hSy p1; have e3 := keep_cell hSy cx; have e4 := keep_cell hSy ct; clear hSy hSx; first | (go_simp; done) | (go_simp; with_reducible rfl)
    simp only [Act.put, List.setIfInBounds_toArray, List.set_cons_zero, List.set_cons_succ]
    generalize hwa : World.drew _ = wa at hS ⊢
    clear hwa
    have HSa := Lib.hid hS
    clear hS
    refine wpAnyH_ready (rs := [11, 13]) (by kernel_rfl) (by simp) ?_
    refine AllReadyH.cons rfl (fun K hK => ?_) (AllReadyH.cons rfl (fun K hK => ?_) AllReadyH.nil)
    · skip
      rw [if_pos (by rfl)]
      try go_simp
      refine (HCP.out wa (HRB.out.keep HSa.out)).mono ?_
      rintro r wv ⟨rfl, hrow, hb⟩
      refine hK.out _ _ (below_seq HSa.out hb) (fun hS2 => ?_)
      clear hK K
      try simp only [Act.put, List.setIfInBounds_toArray, List.set_cons_zero, List.set_cons_succ]
      have HG := Lib.hid hrow
      have hgg : w0.heap.size ≤ wa.heap.size := HSa.out.size
      generalize wa.heap.size = g at *
      clear hrow
      replace HSa := Lib.hid hS2
      clear hS2 hb wa
      rename World => wa
      refine takeH (i := 12) (d := some 22) (v := ?_) rfl rfl (by kernel_rfl) (by kernel_rfl) (by kernel_rfl) (fun _ _ _ h => h) (Or.inl ⟨by rfl, ?_⟩) HSa.out ?_
      rotate_left
      · intro wx hSx; clear hSx; first | (go_simp; done) | (go_simp; with_reducible rfl)
      simp only [Act.put, List.setIfInBounds_toArray, List.set_cons_zero, List.set_cons_succ]
      refine wpAnyH_ready (rs := [13]) (by kernel_rfl) (by simp) ?_
      refine AllReadyH.cons rfl (fun K hK => ?_) AllReadyH.nil
      rw [if_pos (by rfl)]
      go_simp
      refine hK.out _ _ (Below.alloc HSa.out HSa.out.size _) (fun hS2 => ?_)
      clear hK K
      try simp only [Act.put, List.setIfInBounds_toArray, List.set_cons_zero, List.set_cons_succ]
      generalize hwb : World.alloc _ _ = wb at hS2 ⊢
      have K8 : Hid (Blk wb wa.heap.size 74 #[.int .i64 0, .slice none 0 0]) := Lib.hid (by rw [← hwb]; exact Blk.new _ _ _)
      have hgeK8 : w0.heap.size ≤ wa.heap.size := HSa.out.size
      have hal : Below wa.heap.size wa wb := by rw [← hwb]; exact (Below.refl _ _).alloc (Nat.le_refl _) _
      replace HG := Lib.hid (rowIs_keep HG.out hal)
      replace HSa := Lib.hid hS2
      generalize wa.heap.size = kK8 at *
      clear hS2 hwb hal
      rename World => wa
      refine wpAnyH_ready (rs := [14]) (by kernel_rfl) (by simp) ?_
      refine AllReadyH.cons rfl (fun K hK => ?_) AllReadyH.nil
      have hne8 : g ≠ kK8 := rowIs_ne HG.out K8.out (by decide)
      rw [if_pos (by rfl)]
      refine wp_store_row 74 _ _ rfl kK8 #[.int .i64 (q : Nat), .slice (some ⟨g, 0, none⟩) T T] rfl rfl 74 _ K8.out (by kernel_rfl) rfl (by simp [Value.oneCell']) ?_
      refine hK.out _ _ (below_row HSa.out hgeK8 _) (fun hS2 => ?_)
      clear hK K
      change wpAnyH _ _ _ _ _ _ _ (Act.put _ none _) _
      try simp only [Act.put]
      generalize hwb : World.setRow _ _ _ = wb at hS2 ⊢
      have K8n : Hid (Blk wb kK8 74 #[.int .i64 (q : Nat), .slice (some ⟨g, 0, none⟩) T T]) := Lib.hid (by rw [← hwb]; exact set_row_blk K8.out)
      replace HG := Lib.hid (show wb.rowIs g 4 T (bits cf.2) by rw [← hwb]; exact rowIs_far HG.out hne8)
      replace HSa := Lib.hid hS2
      clear hS2 hwb
      rename World => wa
      refine wpAnyH_done (by kernel_rfl) ?_ _
      go_wp2_with fail
      go_meet
      exact ⟨kK8, g, rfl, K8n.out, HG.out, hgeK8, hgg, HSa.out⟩
    · skip
      rw [if_pos (by rfl)]
      go_simp
      refine hK.out _ _ (Below.alloc HSa.out HSa.out.size _) (fun hS2 => ?_)
      clear hK K
      try simp only [Act.put, List.setIfInBounds_toArray, List.set_cons_zero, List.set_cons_succ]
      generalize hwb : World.alloc _ _ = wb at hS2 ⊢
      have K8 : Hid (Blk wb wa.heap.size 74 #[.int .i64 0, .slice none 0 0]) := Lib.hid (by rw [← hwb]; exact Blk.new _ _ _)
      have hgeK8 : w0.heap.size ≤ wa.heap.size := HSa.out.size
      have hal : Below wa.heap.size wa wb := by rw [← hwb]; exact (Below.refl _ _).alloc (Nat.le_refl _) _
      replace HSa := Lib.hid hS2
      generalize wa.heap.size = kK8 at *
      clear hS2 hwb hal
      rename World => wa
      refine wpAnyH_ready (rs := [11]) (by kernel_rfl) (by simp) ?_
      refine AllReadyH.cons rfl (fun K hK => ?_) AllReadyH.nil
      rw [if_pos (by rfl)]
      try go_simp
      refine (HCP.out wa (HRB.out.keep HSa.out)).mono ?_
      rintro r wv ⟨rfl, hrow, hb⟩
      refine hK.out _ _ (below_seq HSa.out hb) (fun hS2 => ?_)
      clear hK K
      try simp only [Act.put, List.setIfInBounds_toArray, List.set_cons_zero, List.set_cons_succ]
      replace K8 := Lib.hid (K8.out.keep hb)
      have HG := Lib.hid hrow
      have hgg : w0.heap.size ≤ wa.heap.size := HSa.out.size
      generalize wa.heap.size = g at *
      clear hrow
      replace HSa := Lib.hid hS2
      clear hS2 hb wa
      rename World => wa
      refine takeH (i := 12) (d := some 22) (v := ?_) rfl rfl (by kernel_rfl) (by kernel_rfl) (by kernel_rfl) (fun _ _ _ h => h) (Or.inl ⟨by rfl, ?_⟩) HSa.out ?_
      rotate_left
      · intro wx hSx; clear hSx; first | (go_simp; done) | (go_simp; with_reducible rfl)
      simp only [Act.put, List.setIfInBounds_toArray, List.set_cons_zero, List.set_cons_succ]
      refine wpAnyH_ready (rs := [14]) (by kernel_rfl) (by simp) ?_
      refine AllReadyH.cons rfl (fun K hK => ?_) AllReadyH.nil
      have hne8 : g ≠ kK8 := rowIs_ne HG.out K8.out (by decide)
      rw [if_pos (by rfl)]
      refine wp_store_row 74 _ _ rfl kK8 #[.int .i64 (q : Nat), .slice (some ⟨g, 0, none⟩) T T] rfl rfl 74 _ K8.out (by kernel_rfl) rfl (by simp [Value.oneCell']) ?_
      refine hK.out _ _ (below_row HSa.out hgeK8 _) (fun hS2 => ?_)
      clear hK K
      change wpAnyH _ _ _ _ _ _ _ (Act.put _ none _) _
      try simp only [Act.put]
      generalize hwb : World.setRow _ _ _ = wb at hS2 ⊢
      have K8n : Hid (Blk wb kK8 74 #[.int .i64 (q : Nat), .slice (some ⟨g, 0, none⟩) T T]) := Lib.hid (by rw [← hwb]; exact set_row_blk K8.out)
      replace HG := Lib.hid (show wb.rowIs g 4 T (bits cf.2) by rw [← hwb]; exact rowIs_far HG.out hne8)
      replace HSa := Lib.hid hS2
      clear hS2 hwb
      rename World => wa
      refine wpAnyH_done (by kernel_rfl) ?_ _
      go_wp2_with fail
      go_meet
      exact ⟨kK8, g, rfl, K8n.out, HG.out, hgeK8, hgg, HSa.out⟩
  case rest =>
  obtain ⟨kK8, g, rfl, hK8, hG, hgeK8, hgg, hS⟩ := hcut
  have K8n := Lib.hid hK8
  have HG := Lib.hid hG
  have HSa := Lib.hid hS
  clear hK8 hG hS c3 p0 p1 cx ct
  rename World => wa
  have hneg : g ≠ kK8 := rowIs_ne HG.out K8n.out (by decide)
  have bx := Lib.hid (BX.out.keep HSa.out)
  have c0 := bx.out.c0
  rw [HM.out.I] at c0
  by_cases hik : i < k
  · have hik' : (i : Int) < k := by omega
    obtain ⟨r, hr⟩ : ∃ r, r = cf.2 := ⟨_, rfl⟩
    have HR1 : Hid (Tm.run1 k cf i = r) := Lib.hid (by unfold Tm.run1; rw [if_pos hik, hr])
    replace HG : Hid (wa.rowIs g 4 T (bits r)) := Lib.hid (by rw [hr]; exact HG.out)
    have hrl : r.length = T := by rw [hr]; exact hcl
    have HSn := HSa
    clear HSa hr
    go_upto_region 4 with fail
    clear c0 bx hik'
    rename World => wn
    have bx := Lib.hid (BX.out.keep HSn.out)
    have c5 := bx.out.c5
    have p0 : wn.cell? ⟨w.heap.size + 1, 0, none⟩ = some (.int .i64 (cf.1 : Nat)) := (P4.out.keep HSn.out).cell 0
    have cs := keep_cell HSn.out HCS.out.1
    have ca := keep_cell HSn.out HCS.out.2.1
    have cb := keep_cell HSn.out HCS.out.2.2
    go_upto_region 5 with (refine wpList_load_any rfl 104 _ rfl (gd1.add (i * 2)) rfl [.int .i64 a, .int .i64 b] _ (cells2' ca cb) Try.underlying104 rfl (by kernel_rfl) ?_)
    generalize hwc : World.alloc _ _ = wc
    have hbc : Below wn.heap.size wn wc := hwc ▸ (Below.refl _ _).alloc (Nat.le_refl _) _
    have G11 : Hid (Blk wc wn.heap.size 104 #[.int .i64 a, .int .i64 b]) := Lib.hid (by rw [← hwc]; exact Blk.new _ _ _)
    have hn11 : kK8 < wn.heap.size := K8n.out.lt
    have hg11 : g < wn.heap.size := rowIs_lt HG.out
    have hn6 : w.heap.size + 2 < wn.heap.size := Nat.lt_of_lt_of_le HSZ.out HSn.out.size
    replace K8n := Lib.hid (K8n.out.keep hbc)
    replace HG := Lib.hid (rowIs_keep HG.out hbc)
    replace HSn := Lib.hid (below_seq HSn.out hbc)
    have hne6 : w.heap.size + 2 ≠ kK8 := Nat.ne_of_lt (Nat.lt_of_lt_of_le HSZ.out hgeK8)
    have hng6 : g ≠ w.heap.size + 2 := Nat.ne_of_gt (Nat.lt_of_lt_of_le HSZ.out hgg)
    generalize wn.heap.size = k11 at *
    have g0 : wc.cell? ⟨k11, 0, none⟩ = some (.int .i64 a) := G11.out.cell 0
    have g1 : wc.cell? ⟨k11, 1, none⟩ = some (.int .i64 b) := G11.out.cell 1
    have k1 : wc.cell? ⟨kK8, 1, none⟩ = some (.slice (some ⟨g, 0, none⟩) T T) := K8n.out.cell 1
    have hsz0 : w.heap.size ≤ w0.heap.size := HBL.out.size
    clear hwc hbc c5 p0 cs ca cb bx wn
    rename World => wn
    by_cases q1 : a < 0
    · have d1 : decide (a < 0) = true := by simpa using q1
      have HI := Lib.hid (aft_idle (k := k) (by unfold Tm.acts; rw [HSE.out]; simp; omega))
      rw [HR1.out, HQ.out] at HI
      clear q1
      have G6n := Lib.hid (G6.out.keep HSn.out)
      go_upto_region 6 with fail
      clear g0 g1 k1 d1
      go_wp2_with (first | (refine wpList_load_row rfl 74 _ rfl kK8 rfl 74 #[.int .i64 (q : Nat), .slice (some ⟨g, 0, none⟩) T T] (0, 0) _ K8n.out Try.underlying74 rfl (by kernel_rfl) ?_) | (refine wpList_store_row rfl 74 _ _ rfl (w.heap.size + 2) #[.int .i64 (q : Nat), .slice (some ⟨g, 0, none⟩) T T] rfl rfl 74 _ G6n.out (by kernel_rfl) rfl (by simp [Value.oneCell']) ?_))
      refine ret_c2 (set_row_blk G6n.out) rfl rfl Try.underlying74 rfl (by kernel_rfl) rfl ?_
      rw [HI.out.1, HI.out.2]
      exact ⟨⟨g, rfl, rowIs_far HG.out hng6, by omega⟩, below_row (below_seq HBL.out HSn.out) (by omega) _⟩
    obtain ⟨n, rfl⟩ : ∃ n : Nat, a = n := ⟨a.toNat, by omega⟩
    have hnT : n < T := by omega
    have cbit := HG.out.cell hnT
    by_cases q2 : b = 0
    · have d2 : (b == 0) = true := by simpa using q2
      obtain ⟨x, hx⟩ : ∃ x, x = r.getD n false := ⟨_, rfl⟩
      dsimp only [bits] at cbit
      rw [← hx] at cbit
      cases x
      · have HI := Lib.hid (aft_idle (k := k) (by unfold Tm.acts; rw [HSE.out, HR1.out]; simp only [Int.toNat_natCast]; rw [← hx, q2]; simp))
        rw [HR1.out, HQ.out] at HI
        clear hx
        have G6n := Lib.hid (G6.out.keep HSn.out)
        go_upto_region 6 with fail
        clear g0 g1 k1 d2 cbit
        go_wp2_with (first | (refine wpList_load_row rfl 74 _ rfl kK8 rfl 74 #[.int .i64 (q : Nat), .slice (some ⟨g, 0, none⟩) T T] (0, 0) _ K8n.out Try.underlying74 rfl (by kernel_rfl) ?_) | (refine wpList_store_row rfl 74 _ _ rfl (w.heap.size + 2) #[.int .i64 (q : Nat), .slice (some ⟨g, 0, none⟩) T T] rfl rfl 74 _ G6n.out (by kernel_rfl) rfl (by simp [Value.oneCell']) ?_))
        refine ret_c2 (set_row_blk G6n.out) rfl rfl Try.underlying74 rfl (by kernel_rfl) rfl ?_
        rw [HI.out.1, HI.out.2]
        exact ⟨⟨g, rfl, rowIs_far HG.out hng6, by omega⟩, below_row (below_seq HBL.out HSn.out) (by omega) _⟩
      · have HA := Lib.hid (aft_act (k := k) (by unfold Tm.acts; rw [HSE.out, HR1.out]; simp only [Int.toNat_natCast]; rw [← hx, q2]; simp))
        rw [HR1.out, HSE.out, HQ.out] at HA
        simp only [Int.toNat_natCast] at HA
        rw [show decide (0 < b) = false by rw [q2]; rfl] at HA
        clear hx
        have hn4 : n < 4 := by omega
        have ck := HG.out.cell hnT
        have fk := HG.out.frozen n
        go_upto_region 8 with fail
        clear ck fk k1 d2 q2 cbit
        generalize hwd : World.setCell _ _ _ = wd
        have KD : Hid (Blk wd kK8 74 #[.int .i64 (q : Nat), .slice (some ⟨g, 0, none⟩) T T]) := Lib.hid (by rw [← hwd]; exact K8n.out.far (by show kK8 ≠ g; omega) _)
        have GD : Hid (Blk wd k11 104 #[.int .i64 (n : Int), .int .i64 b]) := Lib.hid (by rw [← hwd]; exact G11.out.far (by show k11 ≠ g; omega) _)
        have G6n : Hid (Blk wd (w.heap.size + 2) 74 #[.int .i64 0, .slice none 0 0]) := Lib.hid (by rw [← hwd]; exact (G6.out.keep HSn.out).far (by show w.heap.size + 2 ≠ g; omega) _)
        have HGD : Hid (wd.rowIs g 4 T (bits (r.set n false))) := Lib.hid (by rw [← hwd]; exact set_bits HG.out hrl hnT _)
        have HBD : Hid (Below w.heap.size w wd) := Lib.hid (by rw [← hwd]; exact below_set (below_seq HBL.out HSn.out) (by show w.heap.size ≤ g; omega) _)
        clear hwd K8n G11 HSn g0 g1 HG
        refine wp_region_held_drew (S := fun wx => Blk wx kK8 74 #[.int .i64 (q : Nat), .slice (some ⟨g, 0, none⟩) T T] ∧ Blk wx k11 104 #[.int .i64 (n : Int), .int .i64 b] ∧ (∃ z, z.size = 2 ∧ Blk wx (w.heap.size + 2) 74 z) ∧ Below w.heap.size w wx ∧ wx.rowIs g 4 T (bits (r.set n false))) (by kernel_rfl) (⟨KD.out, GD.out, ⟨_, rfl, G6n.out⟩, HBD.out.drew, HGD.out⟩) (fun hS => ?_)
        refine takeH (i := 0) (d := some 69) (v := .agg #[.int .i64 (q : Nat), .slice (some ⟨g, 0, none⟩) T T]) rfl rfl (by kernel_rfl) (by kernel_rfl) (by kernel_rfl) (fun _ _ _ h => h) (yieldsIf_load_any (by rfl) 74 _ rfl ⟨kK8, 0, none⟩ rfl [.int .i64 (q : Nat), .slice (some ⟨g, 0, none⟩) T T] _ (fun wx hSx => hSx.1.part 0 _ rfl) Try.underlying74 rfl (by kernel_rfl)) hS ?_
        simp only [Act.put, List.setIfInBounds_toArray, List.set_cons_zero, List.set_cons_succ]
        refine takeH (i := 1) (d := some 70) (v := ?_) rfl rfl (by kernel_rfl) (by kernel_rfl) (by kernel_rfl) (fun _ _ _ h => h) (Or.inl ⟨by rfl, ?_⟩) hS ?_
        rotate_left
        · intro wx hSx; clear hSx; first | (go_simp; done) | (go_simp; with_reducible rfl)
        simp only [Act.put, List.setIfInBounds_toArray, List.set_cons_zero, List.set_cons_succ]
        refine takeH (i := 2) (d := some 71) (v := ?_) rfl rfl (by kernel_rfl) (by kernel_rfl) (by kernel_rfl) (fun _ _ _ h => h) (Or.inl ⟨by rfl, ?_⟩) hS ?_
        rotate_left
        · intro wx hSx; have e0 : wx.cell? ⟨k11, 0, none⟩ = some (.int .i64 (n : Int)) := hSx.2.1.cell 0; have e1 : wx.cell? ⟨k11, 1, none⟩ = some (.int .i64 b) := hSx.2.1.cell 1; clear hSx; first | (go_simp; done) | (go_simp; with_reducible rfl)
        simp only [Act.put, List.setIfInBounds_toArray, List.set_cons_zero, List.set_cons_succ]
        refine takeH (i := 3) (d := some 72) (v := ?_) rfl rfl (by kernel_rfl) (by kernel_rfl) (by kernel_rfl) (fun _ _ _ h => h) (Or.inl ⟨by rfl, ?_⟩) hS ?_
        rotate_left
        · intro wx hSx; clear hSx; have hw1 := IntWalk.i64_in ((n : Int) * 1001) (by omega); have hw3 := IntWalk.i64_in (1 + (n : Int) * 1001) (by omega); have hw2 := IntWalk.i64_in (1 + (n : Int) * 1001 + b) (by omega); first | (go_simp; done) | (go_simp; with_reducible rfl)
        simp only [Act.put, List.setIfInBounds_toArray, List.set_cons_zero, List.set_cons_succ]
        refine takeH (i := 4) (d := some 73) (v := ?_) rfl rfl (by kernel_rfl) (by kernel_rfl) (by kernel_rfl) (fun _ _ _ h => h) (Or.inl ⟨by rfl, ?_⟩) hS ?_
        rotate_left
        · intro wx hSx; clear hSx; have hw1 := IntWalk.i64_in ((n : Int) * 1001) (by omega); have hw3 := IntWalk.i64_in (1 + (n : Int) * 1001) (by omega); have hw2 := IntWalk.i64_in (1 + (n : Int) * 1001 + b) (by omega); first | (go_simp; done) | (go_simp; with_reducible rfl)
        simp only [Act.put, List.setIfInBounds_toArray, List.set_cons_zero, List.set_cons_succ]
        refine takeH (i := 5) (d := some 74) (v := ?_) rfl rfl (by kernel_rfl) (by kernel_rfl) (by kernel_rfl) (fun _ _ _ h => h) (Or.inl ⟨by rfl, ?_⟩) hS ?_
        rotate_left
        · intro wx hSx; clear hSx; first | (go_simp; done) | (go_simp; with_reducible rfl)
        simp only [Act.put, List.setIfInBounds_toArray, List.set_cons_zero, List.set_cons_succ]
        refine takeH (i := 6) (d := some 75) (v := ?_) rfl rfl (by kernel_rfl) (by kernel_rfl) (by kernel_rfl) (fun _ _ _ h => h) (Or.inl ⟨by rfl, ?_⟩) hS ?_
        rotate_left
        · intro wx hSx; have e0 : wx.cell? ⟨k11, 0, none⟩ = some (.int .i64 (n : Int)) := hSx.2.1.cell 0; have e1 : wx.cell? ⟨k11, 1, none⟩ = some (.int .i64 b) := hSx.2.1.cell 1; clear hSx; first | (go_simp; done) | (go_simp; with_reducible rfl)
        simp only [Act.put, List.setIfInBounds_toArray, List.set_cons_zero, List.set_cons_succ]
        refine takeH (i := 7) (d := some 76) (v := ?_) rfl rfl (by kernel_rfl) (by kernel_rfl) (by kernel_rfl) (fun _ _ _ h => h) (Or.inl ⟨by rfl, ?_⟩) hS ?_
        rotate_left
        · intro wx hSx; clear hSx; have hw1 := IntWalk.i64_in ((n : Int) * 1001) (by omega); have hw3 := IntWalk.i64_in (1 + (n : Int) * 1001) (by omega); have hw2 := IntWalk.i64_in (1 + (n : Int) * 1001 + b) (by omega); first | (go_simp; done) | (go_simp; with_reducible rfl)
        simp only [Act.put, List.setIfInBounds_toArray, List.set_cons_zero, List.set_cons_succ]
        generalize hwa : World.drew _ = wa at hS ⊢
        clear hwa
        have HSa := Lib.hid hS
        clear hS
        refine wpAnyH_ready (rs := [8]) (by kernel_rfl) (by simp) ?_
        refine AllReadyH.cons rfl (fun K hK => ?_) AllReadyH.nil
        obtain ⟨z, hz, hz6⟩ := HSa.out.2.2.1
        rw [if_pos (by rfl)]
        refine wp_store_row 74 _ _ rfl (w.heap.size + 2) #[.int .i64 (q : Nat), .slice (some ⟨g, 0, none⟩) T T] rfl rfl 74 _ hz6 (by kernel_rfl) (by rw [hz]; rfl) (by simp [Value.oneCell']) ?_
        refine hK.out _ _ ⟨far_row_blk HSa.out.1 (by omega), far_row_blk HSa.out.2.1 (by omega), ⟨_, rfl, set_row_blk hz6⟩, below_row HSa.out.2.2.2.1 (by omega) _, rowIs_far HSa.out.2.2.2.2 hng6⟩ (fun hS2 => ?_)
        clear hK K
        change wpAnyH _ _ _ _ _ _ _ (Act.put _ none _) _
        try simp only [Act.put]
        have G6e := Lib.hid (set_row_blk (cs' := #[.int .i64 (q : Nat), .slice (some ⟨g, 0, none⟩) T T]) hz6)
        replace HSa := Lib.hid hS2
        clear hS2 hz6 hz z
        generalize World.setRow _ _ _ = wb at *
        clear wa
        rename World => wa
        refine takeH (i := 9) (d := some 7) (v := ?_) rfl rfl (by kernel_rfl) (by kernel_rfl) (by kernel_rfl) (fun _ _ _ h => h) (Or.inl ⟨by rfl, ?_⟩) HSa.out ?_
        rotate_left
        · intro wx hSx; clear hSx; first | (go_simp; done) | (go_simp; with_reducible rfl)
        simp only [Act.put, List.setIfInBounds_toArray, List.set_cons_zero, List.set_cons_succ]
        refine wpAnyH_done (by kernel_rfl) ?_ _
        go_wp2_with fail
        refine ret_c2 G6e.out rfl rfl Try.underlying74 rfl (by kernel_rfl) rfl ?_
        rw [HA.out.1, HA.out.2]
        exact ⟨⟨g, rfl, HSa.out.2.2.2.2, by omega⟩, HSa.out.2.2.2.1⟩
    have d2 : (b == 0) = false := by simpa using q2
    have HA := Lib.hid (aft_act (k := k) (by unfold Tm.acts; rw [HSE.out]; simp; exact .inl q2))
    rw [HR1.out, HSE.out, HQ.out] at HA
    simp only [Int.toNat_natCast] at HA

    have hn4 : n < 4 := by omega
    have ck := HG.out.cell hnT
    have fk := HG.out.frozen n
    go_upto_region 8 with fail
    clear ck fk k1 d2 cbit
    generalize hwd : World.setCell _ _ _ = wd
    have KD : Hid (Blk wd kK8 74 #[.int .i64 (q : Nat), .slice (some ⟨g, 0, none⟩) T T]) := Lib.hid (by rw [← hwd]; exact K8n.out.far (by show kK8 ≠ g; omega) _)
    have GD : Hid (Blk wd k11 104 #[.int .i64 (n : Int), .int .i64 b]) := Lib.hid (by rw [← hwd]; exact G11.out.far (by show k11 ≠ g; omega) _)
    have G6n : Hid (Blk wd (w.heap.size + 2) 74 #[.int .i64 0, .slice none 0 0]) := Lib.hid (by rw [← hwd]; exact (G6.out.keep HSn.out).far (by show w.heap.size + 2 ≠ g; omega) _)
    have HGD : Hid (wd.rowIs g 4 T (bits (r.set n (decide (0 < b))))) := Lib.hid (by rw [← hwd]; exact set_bits HG.out hrl hnT _)
    have HBD : Hid (Below w.heap.size w wd) := Lib.hid (by rw [← hwd]; exact below_set (below_seq HBL.out HSn.out) (by show w.heap.size ≤ g; omega) _)
    clear hwd K8n G11 HSn g0 g1 HG
    refine wp_region_held_drew (S := fun wx => Blk wx kK8 74 #[.int .i64 (q : Nat), .slice (some ⟨g, 0, none⟩) T T] ∧ Blk wx k11 104 #[.int .i64 (n : Int), .int .i64 b] ∧ (∃ z, z.size = 2 ∧ Blk wx (w.heap.size + 2) 74 z) ∧ Below w.heap.size w wx ∧ wx.rowIs g 4 T (bits (r.set n (decide (0 < b))))) (by kernel_rfl) (⟨KD.out, GD.out, ⟨_, rfl, G6n.out⟩, HBD.out.drew, HGD.out⟩) (fun hS => ?_)
    refine takeH (i := 0) (d := some 69) (v := .agg #[.int .i64 (q : Nat), .slice (some ⟨g, 0, none⟩) T T]) rfl rfl (by kernel_rfl) (by kernel_rfl) (by kernel_rfl) (fun _ _ _ h => h) (yieldsIf_load_any (by rfl) 74 _ rfl ⟨kK8, 0, none⟩ rfl [.int .i64 (q : Nat), .slice (some ⟨g, 0, none⟩) T T] _ (fun wx hSx => hSx.1.part 0 _ rfl) Try.underlying74 rfl (by kernel_rfl)) hS ?_
    simp only [Act.put, List.setIfInBounds_toArray, List.set_cons_zero, List.set_cons_succ]
    refine takeH (i := 1) (d := some 70) (v := ?_) rfl rfl (by kernel_rfl) (by kernel_rfl) (by kernel_rfl) (fun _ _ _ h => h) (Or.inl ⟨by rfl, ?_⟩) hS ?_
    rotate_left
    · intro wx hSx; clear hSx; first | (go_simp; done) | (go_simp; with_reducible rfl)
    simp only [Act.put, List.setIfInBounds_toArray, List.set_cons_zero, List.set_cons_succ]
    refine takeH (i := 2) (d := some 71) (v := ?_) rfl rfl (by kernel_rfl) (by kernel_rfl) (by kernel_rfl) (fun _ _ _ h => h) (Or.inl ⟨by rfl, ?_⟩) hS ?_
    rotate_left
    · intro wx hSx; have e0 : wx.cell? ⟨k11, 0, none⟩ = some (.int .i64 (n : Int)) := hSx.2.1.cell 0; have e1 : wx.cell? ⟨k11, 1, none⟩ = some (.int .i64 b) := hSx.2.1.cell 1; clear hSx; first | (go_simp; done) | (go_simp; with_reducible rfl)
    simp only [Act.put, List.setIfInBounds_toArray, List.set_cons_zero, List.set_cons_succ]
    refine takeH (i := 3) (d := some 72) (v := ?_) rfl rfl (by kernel_rfl) (by kernel_rfl) (by kernel_rfl) (fun _ _ _ h => h) (Or.inl ⟨by rfl, ?_⟩) hS ?_
    rotate_left
    · intro wx hSx; clear hSx; have hw1 := IntWalk.i64_in ((n : Int) * 1001) (by omega); have hw3 := IntWalk.i64_in (1 + (n : Int) * 1001) (by omega); have hw2 := IntWalk.i64_in (1 + (n : Int) * 1001 + b) (by omega); first | (go_simp; done) | (go_simp; with_reducible rfl)
    simp only [Act.put, List.setIfInBounds_toArray, List.set_cons_zero, List.set_cons_succ]
    refine takeH (i := 4) (d := some 73) (v := ?_) rfl rfl (by kernel_rfl) (by kernel_rfl) (by kernel_rfl) (fun _ _ _ h => h) (Or.inl ⟨by rfl, ?_⟩) hS ?_
    rotate_left
    · intro wx hSx; clear hSx; have hw1 := IntWalk.i64_in ((n : Int) * 1001) (by omega); have hw3 := IntWalk.i64_in (1 + (n : Int) * 1001) (by omega); have hw2 := IntWalk.i64_in (1 + (n : Int) * 1001 + b) (by omega); first | (go_simp; done) | (go_simp; with_reducible rfl)
    simp only [Act.put, List.setIfInBounds_toArray, List.set_cons_zero, List.set_cons_succ]
    refine takeH (i := 5) (d := some 74) (v := ?_) rfl rfl (by kernel_rfl) (by kernel_rfl) (by kernel_rfl) (fun _ _ _ h => h) (Or.inl ⟨by rfl, ?_⟩) hS ?_
    rotate_left
    · intro wx hSx; clear hSx; first | (go_simp; done) | (go_simp; with_reducible rfl)
    simp only [Act.put, List.setIfInBounds_toArray, List.set_cons_zero, List.set_cons_succ]
    refine takeH (i := 6) (d := some 75) (v := ?_) rfl rfl (by kernel_rfl) (by kernel_rfl) (by kernel_rfl) (fun _ _ _ h => h) (Or.inl ⟨by rfl, ?_⟩) hS ?_
    rotate_left
    · intro wx hSx; have e0 : wx.cell? ⟨k11, 0, none⟩ = some (.int .i64 (n : Int)) := hSx.2.1.cell 0; have e1 : wx.cell? ⟨k11, 1, none⟩ = some (.int .i64 b) := hSx.2.1.cell 1; clear hSx; first | (go_simp; done) | (go_simp; with_reducible rfl)
    simp only [Act.put, List.setIfInBounds_toArray, List.set_cons_zero, List.set_cons_succ]
    refine takeH (i := 7) (d := some 76) (v := ?_) rfl rfl (by kernel_rfl) (by kernel_rfl) (by kernel_rfl) (fun _ _ _ h => h) (Or.inl ⟨by rfl, ?_⟩) hS ?_
    rotate_left
    · intro wx hSx; clear hSx; have hw1 := IntWalk.i64_in ((n : Int) * 1001) (by omega); have hw3 := IntWalk.i64_in (1 + (n : Int) * 1001) (by omega); have hw2 := IntWalk.i64_in (1 + (n : Int) * 1001 + b) (by omega); first | (go_simp; done) | (go_simp; with_reducible rfl)
    simp only [Act.put, List.setIfInBounds_toArray, List.set_cons_zero, List.set_cons_succ]
    generalize hwa : World.drew _ = wa at hS ⊢
    clear hwa
    have HSa := Lib.hid hS
    clear hS
    refine wpAnyH_ready (rs := [8]) (by kernel_rfl) (by simp) ?_
    refine AllReadyH.cons rfl (fun K hK => ?_) AllReadyH.nil
    obtain ⟨z, hz, hz6⟩ := HSa.out.2.2.1
    rw [if_pos (by rfl)]
    refine wp_store_row 74 _ _ rfl (w.heap.size + 2) #[.int .i64 (q : Nat), .slice (some ⟨g, 0, none⟩) T T] rfl rfl 74 _ hz6 (by kernel_rfl) (by rw [hz]; rfl) (by simp [Value.oneCell']) ?_
    refine hK.out _ _ ⟨far_row_blk HSa.out.1 (by omega), far_row_blk HSa.out.2.1 (by omega), ⟨_, rfl, set_row_blk hz6⟩, below_row HSa.out.2.2.2.1 (by omega) _, rowIs_far HSa.out.2.2.2.2 hng6⟩ (fun hS2 => ?_)
    clear hK K
    change wpAnyH _ _ _ _ _ _ _ (Act.put _ none _) _
    try simp only [Act.put]
    have G6e := Lib.hid (set_row_blk (cs' := #[.int .i64 (q : Nat), .slice (some ⟨g, 0, none⟩) T T]) hz6)
    replace HSa := Lib.hid hS2
    clear hS2 hz6 hz z
    generalize World.setRow _ _ _ = wb at *
    clear wa
    rename World => wa
    refine takeH (i := 9) (d := some 7) (v := ?_) rfl rfl (by kernel_rfl) (by kernel_rfl) (by kernel_rfl) (fun _ _ _ h => h) (Or.inl ⟨by rfl, ?_⟩) HSa.out ?_
    rotate_left
    · intro wx hSx; clear hSx; first | (go_simp; done) | (go_simp; with_reducible rfl)
    simp only [Act.put, List.setIfInBounds_toArray, List.set_cons_zero, List.set_cons_succ]
    refine wpAnyH_done (by kernel_rfl) ?_ _
    go_wp2_with fail
    refine ret_c2 G6e.out rfl rfl Try.underlying74 rfl (by kernel_rfl) rfl ?_
    rw [HA.out.1, HA.out.2]
    exact ⟨⟨g, rfl, HSa.out.2.2.2.2, by omega⟩, HSa.out.2.2.2.1⟩
  obtain ⟨x, rfl⟩ : ∃ x, i = k + x := ⟨i - k, by omega⟩
  have hxT : x < T := by omega
  have hik' : (k : Int) ≤ (k : Int) + (x : Int) := by omega
  have hkx : (k : Int) + (x : Int) - (k : Int) = x := by omega
  obtain ⟨r, hr⟩ : ∃ r, r = cf.2.set x false := ⟨_, rfl⟩
  have HR1 : Hid (Tm.run1 k cf (k + x) = r) := Lib.hid (by unfold Tm.run1; rw [if_neg (by omega), show k + x - k = x by omega, hr])
  have hrl : r.length = T := by rw [hr, List.length_set]; exact hcl
  have ck := HG.out.cell hxT
  have fk := HG.out.frozen x
  have k1 : wa.cell? ⟨kK8, 1, none⟩ = some (.slice (some ⟨g, 0, none⟩) T T) := K8n.out.cell 1
  go_upto_region 4 with fail
  clear c0 bx hik' hkx ck fk k1
  generalize hwn : World.setCell _ _ _ = wn
  replace K8n : Hid (Blk wn kK8 74 #[.int .i64 (q : Nat), .slice (some ⟨g, 0, none⟩) T T]) := Lib.hid (by rw [← hwn]; exact K8n.out.far (by show kK8 ≠ g; omega) _)
  replace HG : Hid (wn.rowIs g 4 T (bits r)) := Lib.hid (by rw [← hwn, hr]; exact set_bits HG.out hcl hxT _)
  have HSn : Hid (Below w0.heap.size w0 wn) := Lib.hid (by rw [← hwn]; exact below_set HSa.out hgg _)
  clear hwn HSa hr
  clear wa
  have bx := Lib.hid (BX.out.keep HSn.out)
  have c5 := bx.out.c5
  have p0 : wn.cell? ⟨w.heap.size + 1, 0, none⟩ = some (.int .i64 (cf.1 : Nat)) := (P4.out.keep HSn.out).cell 0
  have cs := keep_cell HSn.out HCS.out.1
  have ca := keep_cell HSn.out HCS.out.2.1
  have cb := keep_cell HSn.out HCS.out.2.2
  go_upto_region 5 with (refine wpList_load_any rfl 104 _ rfl (gd1.add ((k + x) * 2)) rfl [.int .i64 a, .int .i64 b] _ (cells2' ca cb) Try.underlying104 rfl (by kernel_rfl) ?_)
  generalize hwc : World.alloc _ _ = wc
  have hbc : Below wn.heap.size wn wc := hwc ▸ (Below.refl _ _).alloc (Nat.le_refl _) _
  have G11 : Hid (Blk wc wn.heap.size 104 #[.int .i64 a, .int .i64 b]) := Lib.hid (by rw [← hwc]; exact Blk.new _ _ _)
  have hn11 : kK8 < wn.heap.size := K8n.out.lt
  have hg11 : g < wn.heap.size := rowIs_lt HG.out
  have hn6 : w.heap.size + 2 < wn.heap.size := Nat.lt_of_lt_of_le HSZ.out HSn.out.size
  replace K8n := Lib.hid (K8n.out.keep hbc)
  replace HG := Lib.hid (rowIs_keep HG.out hbc)
  replace HSn := Lib.hid (below_seq HSn.out hbc)
  have hne6 : w.heap.size + 2 ≠ kK8 := Nat.ne_of_lt (Nat.lt_of_lt_of_le HSZ.out hgeK8)
  have hng6 : g ≠ w.heap.size + 2 := Nat.ne_of_gt (Nat.lt_of_lt_of_le HSZ.out hgg)
  generalize wn.heap.size = k11 at *
  have g0 : wc.cell? ⟨k11, 0, none⟩ = some (.int .i64 a) := G11.out.cell 0
  have g1 : wc.cell? ⟨k11, 1, none⟩ = some (.int .i64 b) := G11.out.cell 1
  have k1 : wc.cell? ⟨kK8, 1, none⟩ = some (.slice (some ⟨g, 0, none⟩) T T) := K8n.out.cell 1
  have hsz0 : w.heap.size ≤ w0.heap.size := HBL.out.size
  clear hwc hbc c5 p0 cs ca cb bx wn
  rename World => wn
  by_cases q1 : a < 0
  · have d1 : decide (a < 0) = true := by simpa using q1
    have HI := Lib.hid (aft_idle (k := k) (by unfold Tm.acts; rw [HSE.out]; simp; omega))
    rw [HR1.out, HQ.out] at HI
    clear q1
    have G6n := Lib.hid (G6.out.keep HSn.out)
    go_upto_region 6 with fail
    clear g0 g1 k1 d1
    go_wp2_with (first | (refine wpList_load_row rfl 74 _ rfl kK8 rfl 74 #[.int .i64 (q : Nat), .slice (some ⟨g, 0, none⟩) T T] (0, 0) _ K8n.out Try.underlying74 rfl (by kernel_rfl) ?_) | (refine wpList_store_row rfl 74 _ _ rfl (w.heap.size + 2) #[.int .i64 (q : Nat), .slice (some ⟨g, 0, none⟩) T T] rfl rfl 74 _ G6n.out (by kernel_rfl) rfl (by simp [Value.oneCell']) ?_))
    refine ret_c2 (set_row_blk G6n.out) rfl rfl Try.underlying74 rfl (by kernel_rfl) rfl ?_
    rw [HI.out.1, HI.out.2]
    exact ⟨⟨g, rfl, rowIs_far HG.out hng6, by omega⟩, below_row (below_seq HBL.out HSn.out) (by omega) _⟩
  obtain ⟨n, rfl⟩ : ∃ n : Nat, a = n := ⟨a.toNat, by omega⟩
  have hnT : n < T := by omega
  have cbit := HG.out.cell hnT
  by_cases q2 : b = 0
  · have d2 : (b == 0) = true := by simpa using q2
    obtain ⟨x, hx⟩ : ∃ x, x = r.getD n false := ⟨_, rfl⟩
    dsimp only [bits] at cbit
    rw [← hx] at cbit
    cases x
    · have HI := Lib.hid (aft_idle (k := k) (by unfold Tm.acts; rw [HSE.out, HR1.out]; simp only [Int.toNat_natCast]; rw [← hx, q2]; simp))
      rw [HR1.out, HQ.out] at HI
      clear hx
      have G6n := Lib.hid (G6.out.keep HSn.out)
      go_upto_region 6 with fail
      clear g0 g1 k1 d2 cbit
      go_wp2_with (first | (refine wpList_load_row rfl 74 _ rfl kK8 rfl 74 #[.int .i64 (q : Nat), .slice (some ⟨g, 0, none⟩) T T] (0, 0) _ K8n.out Try.underlying74 rfl (by kernel_rfl) ?_) | (refine wpList_store_row rfl 74 _ _ rfl (w.heap.size + 2) #[.int .i64 (q : Nat), .slice (some ⟨g, 0, none⟩) T T] rfl rfl 74 _ G6n.out (by kernel_rfl) rfl (by simp [Value.oneCell']) ?_))
      refine ret_c2 (set_row_blk G6n.out) rfl rfl Try.underlying74 rfl (by kernel_rfl) rfl ?_
      rw [HI.out.1, HI.out.2]
      exact ⟨⟨g, rfl, rowIs_far HG.out hng6, by omega⟩, below_row (below_seq HBL.out HSn.out) (by omega) _⟩
    · have HA := Lib.hid (aft_act (k := k) (by unfold Tm.acts; rw [HSE.out, HR1.out]; simp only [Int.toNat_natCast]; rw [← hx, q2]; simp))
      rw [HR1.out, HSE.out, HQ.out] at HA
      simp only [Int.toNat_natCast] at HA
      rw [show decide (0 < b) = false by rw [q2]; rfl] at HA
      clear hx
      have hn4 : n < 4 := by omega
      have ck := HG.out.cell hnT
      have fk := HG.out.frozen n
      go_upto_region 8 with fail
      clear ck fk k1 d2 q2 cbit
      generalize hwd : World.setCell _ _ _ = wd
      have KD : Hid (Blk wd kK8 74 #[.int .i64 (q : Nat), .slice (some ⟨g, 0, none⟩) T T]) := Lib.hid (by rw [← hwd]; exact K8n.out.far (by show kK8 ≠ g; omega) _)
      have GD : Hid (Blk wd k11 104 #[.int .i64 (n : Int), .int .i64 b]) := Lib.hid (by rw [← hwd]; exact G11.out.far (by show k11 ≠ g; omega) _)
      have G6n : Hid (Blk wd (w.heap.size + 2) 74 #[.int .i64 0, .slice none 0 0]) := Lib.hid (by rw [← hwd]; exact (G6.out.keep HSn.out).far (by show w.heap.size + 2 ≠ g; omega) _)
      have HGD : Hid (wd.rowIs g 4 T (bits (r.set n false))) := Lib.hid (by rw [← hwd]; exact set_bits HG.out hrl hnT _)
      have HBD : Hid (Below w.heap.size w wd) := Lib.hid (by rw [← hwd]; exact below_set (below_seq HBL.out HSn.out) (by show w.heap.size ≤ g; omega) _)
      clear hwd K8n G11 HSn g0 g1 HG
      refine wp_region_held_drew (S := fun wx => Blk wx kK8 74 #[.int .i64 (q : Nat), .slice (some ⟨g, 0, none⟩) T T] ∧ Blk wx k11 104 #[.int .i64 (n : Int), .int .i64 b] ∧ (∃ z, z.size = 2 ∧ Blk wx (w.heap.size + 2) 74 z) ∧ Below w.heap.size w wx ∧ wx.rowIs g 4 T (bits (r.set n false))) (by kernel_rfl) (⟨KD.out, GD.out, ⟨_, rfl, G6n.out⟩, HBD.out.drew, HGD.out⟩) (fun hS => ?_)
      refine takeH (i := 0) (d := some 69) (v := .agg #[.int .i64 (q : Nat), .slice (some ⟨g, 0, none⟩) T T]) rfl rfl (by kernel_rfl) (by kernel_rfl) (by kernel_rfl) (fun _ _ _ h => h) (yieldsIf_load_any (by rfl) 74 _ rfl ⟨kK8, 0, none⟩ rfl [.int .i64 (q : Nat), .slice (some ⟨g, 0, none⟩) T T] _ (fun wx hSx => hSx.1.part 0 _ rfl) Try.underlying74 rfl (by kernel_rfl)) hS ?_
      simp only [Act.put, List.setIfInBounds_toArray, List.set_cons_zero, List.set_cons_succ]
      refine takeH (i := 1) (d := some 70) (v := ?_) rfl rfl (by kernel_rfl) (by kernel_rfl) (by kernel_rfl) (fun _ _ _ h => h) (Or.inl ⟨by rfl, ?_⟩) hS ?_
      rotate_left
      · intro wx hSx; clear hSx; first | (go_simp; done) | (go_simp; with_reducible rfl)
      simp only [Act.put, List.setIfInBounds_toArray, List.set_cons_zero, List.set_cons_succ]
      refine takeH (i := 2) (d := some 71) (v := ?_) rfl rfl (by kernel_rfl) (by kernel_rfl) (by kernel_rfl) (fun _ _ _ h => h) (Or.inl ⟨by rfl, ?_⟩) hS ?_
      rotate_left
      · intro wx hSx; have e0 : wx.cell? ⟨k11, 0, none⟩ = some (.int .i64 (n : Int)) := hSx.2.1.cell 0; have e1 : wx.cell? ⟨k11, 1, none⟩ = some (.int .i64 b) := hSx.2.1.cell 1; clear hSx; first | (go_simp; done) | (go_simp; with_reducible rfl)
      simp only [Act.put, List.setIfInBounds_toArray, List.set_cons_zero, List.set_cons_succ]
      refine takeH (i := 3) (d := some 72) (v := ?_) rfl rfl (by kernel_rfl) (by kernel_rfl) (by kernel_rfl) (fun _ _ _ h => h) (Or.inl ⟨by rfl, ?_⟩) hS ?_
      rotate_left
      · intro wx hSx; clear hSx; have hw1 := IntWalk.i64_in ((n : Int) * 1001) (by omega); have hw3 := IntWalk.i64_in (1 + (n : Int) * 1001) (by omega); have hw2 := IntWalk.i64_in (1 + (n : Int) * 1001 + b) (by omega); first | (go_simp; done) | (go_simp; with_reducible rfl)
      simp only [Act.put, List.setIfInBounds_toArray, List.set_cons_zero, List.set_cons_succ]
      refine takeH (i := 4) (d := some 73) (v := ?_) rfl rfl (by kernel_rfl) (by kernel_rfl) (by kernel_rfl) (fun _ _ _ h => h) (Or.inl ⟨by rfl, ?_⟩) hS ?_
      rotate_left
      · intro wx hSx; clear hSx; have hw1 := IntWalk.i64_in ((n : Int) * 1001) (by omega); have hw3 := IntWalk.i64_in (1 + (n : Int) * 1001) (by omega); have hw2 := IntWalk.i64_in (1 + (n : Int) * 1001 + b) (by omega); first | (go_simp; done) | (go_simp; with_reducible rfl)
      simp only [Act.put, List.setIfInBounds_toArray, List.set_cons_zero, List.set_cons_succ]
      refine takeH (i := 5) (d := some 74) (v := ?_) rfl rfl (by kernel_rfl) (by kernel_rfl) (by kernel_rfl) (fun _ _ _ h => h) (Or.inl ⟨by rfl, ?_⟩) hS ?_
      rotate_left
      · intro wx hSx; clear hSx; first | (go_simp; done) | (go_simp; with_reducible rfl)
      simp only [Act.put, List.setIfInBounds_toArray, List.set_cons_zero, List.set_cons_succ]
      refine takeH (i := 6) (d := some 75) (v := ?_) rfl rfl (by kernel_rfl) (by kernel_rfl) (by kernel_rfl) (fun _ _ _ h => h) (Or.inl ⟨by rfl, ?_⟩) hS ?_
      rotate_left
      · intro wx hSx; have e0 : wx.cell? ⟨k11, 0, none⟩ = some (.int .i64 (n : Int)) := hSx.2.1.cell 0; have e1 : wx.cell? ⟨k11, 1, none⟩ = some (.int .i64 b) := hSx.2.1.cell 1; clear hSx; first | (go_simp; done) | (go_simp; with_reducible rfl)
      simp only [Act.put, List.setIfInBounds_toArray, List.set_cons_zero, List.set_cons_succ]
      refine takeH (i := 7) (d := some 76) (v := ?_) rfl rfl (by kernel_rfl) (by kernel_rfl) (by kernel_rfl) (fun _ _ _ h => h) (Or.inl ⟨by rfl, ?_⟩) hS ?_
      rotate_left
      · intro wx hSx; clear hSx; have hw1 := IntWalk.i64_in ((n : Int) * 1001) (by omega); have hw3 := IntWalk.i64_in (1 + (n : Int) * 1001) (by omega); have hw2 := IntWalk.i64_in (1 + (n : Int) * 1001 + b) (by omega); first | (go_simp; done) | (go_simp; with_reducible rfl)
      simp only [Act.put, List.setIfInBounds_toArray, List.set_cons_zero, List.set_cons_succ]
      generalize hwa : World.drew _ = wa at hS ⊢
      clear hwa
      have HSa := Lib.hid hS
      clear hS
      refine wpAnyH_ready (rs := [8]) (by kernel_rfl) (by simp) ?_
      refine AllReadyH.cons rfl (fun K hK => ?_) AllReadyH.nil
      obtain ⟨z, hz, hz6⟩ := HSa.out.2.2.1
      rw [if_pos (by rfl)]
      refine wp_store_row 74 _ _ rfl (w.heap.size + 2) #[.int .i64 (q : Nat), .slice (some ⟨g, 0, none⟩) T T] rfl rfl 74 _ hz6 (by kernel_rfl) (by rw [hz]; rfl) (by simp [Value.oneCell']) ?_
      refine hK.out _ _ ⟨far_row_blk HSa.out.1 (by omega), far_row_blk HSa.out.2.1 (by omega), ⟨_, rfl, set_row_blk hz6⟩, below_row HSa.out.2.2.2.1 (by omega) _, rowIs_far HSa.out.2.2.2.2 hng6⟩ (fun hS2 => ?_)
      clear hK K
      change wpAnyH _ _ _ _ _ _ _ (Act.put _ none _) _
      try simp only [Act.put]
      have G6e := Lib.hid (set_row_blk (cs' := #[.int .i64 (q : Nat), .slice (some ⟨g, 0, none⟩) T T]) hz6)
      replace HSa := Lib.hid hS2
      clear hS2 hz6 hz z
      generalize World.setRow _ _ _ = wb at *
      clear wa
      rename World => wa
      refine takeH (i := 9) (d := some 7) (v := ?_) rfl rfl (by kernel_rfl) (by kernel_rfl) (by kernel_rfl) (fun _ _ _ h => h) (Or.inl ⟨by rfl, ?_⟩) HSa.out ?_
      rotate_left
      · intro wx hSx; clear hSx; first | (go_simp; done) | (go_simp; with_reducible rfl)
      simp only [Act.put, List.setIfInBounds_toArray, List.set_cons_zero, List.set_cons_succ]
      refine wpAnyH_done (by kernel_rfl) ?_ _
      go_wp2_with fail
      refine ret_c2 G6e.out rfl rfl Try.underlying74 rfl (by kernel_rfl) rfl ?_
      rw [HA.out.1, HA.out.2]
      exact ⟨⟨g, rfl, HSa.out.2.2.2.2, by omega⟩, HSa.out.2.2.2.1⟩
  have d2 : (b == 0) = false := by simpa using q2
  have HA := Lib.hid (aft_act (k := k) (by unfold Tm.acts; rw [HSE.out]; simp; exact .inl q2))
  rw [HR1.out, HSE.out, HQ.out] at HA
  simp only [Int.toNat_natCast] at HA

  have hn4 : n < 4 := by omega
  have ck := HG.out.cell hnT
  have fk := HG.out.frozen n
  go_upto_region 8 with fail
  clear ck fk k1 d2 cbit
  generalize hwd : World.setCell _ _ _ = wd
  have KD : Hid (Blk wd kK8 74 #[.int .i64 (q : Nat), .slice (some ⟨g, 0, none⟩) T T]) := Lib.hid (by rw [← hwd]; exact K8n.out.far (by show kK8 ≠ g; omega) _)
  have GD : Hid (Blk wd k11 104 #[.int .i64 (n : Int), .int .i64 b]) := Lib.hid (by rw [← hwd]; exact G11.out.far (by show k11 ≠ g; omega) _)
  have G6n : Hid (Blk wd (w.heap.size + 2) 74 #[.int .i64 0, .slice none 0 0]) := Lib.hid (by rw [← hwd]; exact (G6.out.keep HSn.out).far (by show w.heap.size + 2 ≠ g; omega) _)
  have HGD : Hid (wd.rowIs g 4 T (bits (r.set n (decide (0 < b))))) := Lib.hid (by rw [← hwd]; exact set_bits HG.out hrl hnT _)
  have HBD : Hid (Below w.heap.size w wd) := Lib.hid (by rw [← hwd]; exact below_set (below_seq HBL.out HSn.out) (by show w.heap.size ≤ g; omega) _)
  clear hwd K8n G11 HSn g0 g1 HG
  refine wp_region_held_drew (S := fun wx => Blk wx kK8 74 #[.int .i64 (q : Nat), .slice (some ⟨g, 0, none⟩) T T] ∧ Blk wx k11 104 #[.int .i64 (n : Int), .int .i64 b] ∧ (∃ z, z.size = 2 ∧ Blk wx (w.heap.size + 2) 74 z) ∧ Below w.heap.size w wx ∧ wx.rowIs g 4 T (bits (r.set n (decide (0 < b))))) (by kernel_rfl) (⟨KD.out, GD.out, ⟨_, rfl, G6n.out⟩, HBD.out.drew, HGD.out⟩) (fun hS => ?_)
  refine takeH (i := 0) (d := some 69) (v := .agg #[.int .i64 (q : Nat), .slice (some ⟨g, 0, none⟩) T T]) rfl rfl (by kernel_rfl) (by kernel_rfl) (by kernel_rfl) (fun _ _ _ h => h) (yieldsIf_load_any (by rfl) 74 _ rfl ⟨kK8, 0, none⟩ rfl [.int .i64 (q : Nat), .slice (some ⟨g, 0, none⟩) T T] _ (fun wx hSx => hSx.1.part 0 _ rfl) Try.underlying74 rfl (by kernel_rfl)) hS ?_
  simp only [Act.put, List.setIfInBounds_toArray, List.set_cons_zero, List.set_cons_succ]
  refine takeH (i := 1) (d := some 70) (v := ?_) rfl rfl (by kernel_rfl) (by kernel_rfl) (by kernel_rfl) (fun _ _ _ h => h) (Or.inl ⟨by rfl, ?_⟩) hS ?_
  rotate_left
  · intro wx hSx; clear hSx; first | (go_simp; done) | (go_simp; with_reducible rfl)
  simp only [Act.put, List.setIfInBounds_toArray, List.set_cons_zero, List.set_cons_succ]
  refine takeH (i := 2) (d := some 71) (v := ?_) rfl rfl (by kernel_rfl) (by kernel_rfl) (by kernel_rfl) (fun _ _ _ h => h) (Or.inl ⟨by rfl, ?_⟩) hS ?_
  rotate_left
  · intro wx hSx; have e0 : wx.cell? ⟨k11, 0, none⟩ = some (.int .i64 (n : Int)) := hSx.2.1.cell 0; have e1 : wx.cell? ⟨k11, 1, none⟩ = some (.int .i64 b) := hSx.2.1.cell 1; clear hSx; first | (go_simp; done) | (go_simp; with_reducible rfl)
  simp only [Act.put, List.setIfInBounds_toArray, List.set_cons_zero, List.set_cons_succ]
  refine takeH (i := 3) (d := some 72) (v := ?_) rfl rfl (by kernel_rfl) (by kernel_rfl) (by kernel_rfl) (fun _ _ _ h => h) (Or.inl ⟨by rfl, ?_⟩) hS ?_
  rotate_left
  · intro wx hSx; clear hSx; have hw1 := IntWalk.i64_in ((n : Int) * 1001) (by omega); have hw3 := IntWalk.i64_in (1 + (n : Int) * 1001) (by omega); have hw2 := IntWalk.i64_in (1 + (n : Int) * 1001 + b) (by omega); first | (go_simp; done) | (go_simp; with_reducible rfl)
  simp only [Act.put, List.setIfInBounds_toArray, List.set_cons_zero, List.set_cons_succ]
  refine takeH (i := 4) (d := some 73) (v := ?_) rfl rfl (by kernel_rfl) (by kernel_rfl) (by kernel_rfl) (fun _ _ _ h => h) (Or.inl ⟨by rfl, ?_⟩) hS ?_
  rotate_left
  · intro wx hSx; clear hSx; have hw1 := IntWalk.i64_in ((n : Int) * 1001) (by omega); have hw3 := IntWalk.i64_in (1 + (n : Int) * 1001) (by omega); have hw2 := IntWalk.i64_in (1 + (n : Int) * 1001 + b) (by omega); first | (go_simp; done) | (go_simp; with_reducible rfl)
  simp only [Act.put, List.setIfInBounds_toArray, List.set_cons_zero, List.set_cons_succ]
  refine takeH (i := 5) (d := some 74) (v := ?_) rfl rfl (by kernel_rfl) (by kernel_rfl) (by kernel_rfl) (fun _ _ _ h => h) (Or.inl ⟨by rfl, ?_⟩) hS ?_
  rotate_left
  · intro wx hSx; clear hSx; first | (go_simp; done) | (go_simp; with_reducible rfl)
  simp only [Act.put, List.setIfInBounds_toArray, List.set_cons_zero, List.set_cons_succ]
  refine takeH (i := 6) (d := some 75) (v := ?_) rfl rfl (by kernel_rfl) (by kernel_rfl) (by kernel_rfl) (fun _ _ _ h => h) (Or.inl ⟨by rfl, ?_⟩) hS ?_
  rotate_left
  · intro wx hSx; have e0 : wx.cell? ⟨k11, 0, none⟩ = some (.int .i64 (n : Int)) := hSx.2.1.cell 0; have e1 : wx.cell? ⟨k11, 1, none⟩ = some (.int .i64 b) := hSx.2.1.cell 1; clear hSx; first | (go_simp; done) | (go_simp; with_reducible rfl)
  simp only [Act.put, List.setIfInBounds_toArray, List.set_cons_zero, List.set_cons_succ]
  refine takeH (i := 7) (d := some 76) (v := ?_) rfl rfl (by kernel_rfl) (by kernel_rfl) (by kernel_rfl) (fun _ _ _ h => h) (Or.inl ⟨by rfl, ?_⟩) hS ?_
  rotate_left
  · intro wx hSx; clear hSx; have hw1 := IntWalk.i64_in ((n : Int) * 1001) (by omega); have hw3 := IntWalk.i64_in (1 + (n : Int) * 1001) (by omega); have hw2 := IntWalk.i64_in (1 + (n : Int) * 1001 + b) (by omega); first | (go_simp; done) | (go_simp; with_reducible rfl)
  simp only [Act.put, List.setIfInBounds_toArray, List.set_cons_zero, List.set_cons_succ]
  generalize hwa : World.drew _ = wa at hS ⊢
  clear hwa
  have HSa := Lib.hid hS
  clear hS
  refine wpAnyH_ready (rs := [8]) (by kernel_rfl) (by simp) ?_
  refine AllReadyH.cons rfl (fun K hK => ?_) AllReadyH.nil
  obtain ⟨z, hz, hz6⟩ := HSa.out.2.2.1
  rw [if_pos (by rfl)]
  refine wp_store_row 74 _ _ rfl (w.heap.size + 2) #[.int .i64 (q : Nat), .slice (some ⟨g, 0, none⟩) T T] rfl rfl 74 _ hz6 (by kernel_rfl) (by rw [hz]; rfl) (by simp [Value.oneCell']) ?_
  refine hK.out _ _ ⟨far_row_blk HSa.out.1 (by omega), far_row_blk HSa.out.2.1 (by omega), ⟨_, rfl, set_row_blk hz6⟩, below_row HSa.out.2.2.2.1 (by omega) _, rowIs_far HSa.out.2.2.2.2 hng6⟩ (fun hS2 => ?_)
  clear hK K
  change wpAnyH _ _ _ _ _ _ _ (Act.put _ none _) _
  try simp only [Act.put]
  have G6e := Lib.hid (set_row_blk (cs' := #[.int .i64 (q : Nat), .slice (some ⟨g, 0, none⟩) T T]) hz6)
  replace HSa := Lib.hid hS2
  clear hS2 hz6 hz z
  generalize World.setRow _ _ _ = wb at *
  clear wa
  rename World => wa
  refine takeH (i := 9) (d := some 7) (v := ?_) rfl rfl (by kernel_rfl) (by kernel_rfl) (by kernel_rfl) (fun _ _ _ h => h) (Or.inl ⟨by rfl, ?_⟩) HSa.out ?_
  rotate_left
  · intro wx hSx; clear hSx; first | (go_simp; done) | (go_simp; with_reducible rfl)
  simp only [Act.put, List.setIfInBounds_toArray, List.set_cons_zero, List.set_cons_succ]
  refine wpAnyH_done (by kernel_rfl) ?_ _
  go_wp2_with fail
  refine ret_c2 G6e.out rfl rfl Try.underlying74 rfl (by kernel_rfl) rfl ?_
  rw [HA.out.1, HA.out.2]
  exact ⟨⟨g, rfl, HSa.out.2.2.2.2, by omega⟩, HSa.out.2.2.2.1⟩
end Go.Proofs.Ytpcoddbkcelaoaa
