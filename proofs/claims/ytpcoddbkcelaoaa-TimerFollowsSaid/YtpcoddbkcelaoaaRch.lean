/- The reference's list of the reachable configurations. -/
import Derived.Test.YtpcoddbkcelaoaaPlc
namespace Go.Proofs.Ytpcoddbkcelaoaa
open Go.RowKit

namespace Tm
/-- in the midst of a configuration's symbols -/
structure RowS (m : M) (k T S a : Nat) (c : Cfg) (i : Nat) (q : List Cfg) : Prop where
  good : Good m.nx.length T q
  ok : CfgOk m.nx.length T c
  get : q[a]? = some c
  res : Sea m k T S (a + 1) (rowQ m k c (k + T - i) i q)
section
variable {m : M} {k T S a i : Nat} {c : Cfg} {q : List Cfg}
theorem RowS.start (hm : Ok m k T S) (h : Sea m k T S a q) (hc : q[a]? = some c) : RowS m k T S a c 0 q :=
  ⟨h.good, h.good.ok c (List.mem_of_getElem? hc), hc, h.next hm (List.getElem?_eq_some_iff.1 hc).1 hc⟩
theorem RowS.on (h : RowS m k T S a c i q) (hi : i < k + T) : Sea m k T S (a + 1) (rowQ m k c (k + T - (i + 1)) (i + 1) (if poss k c i = true then addC q (aftC m k c i) else q)) := by
  have := h.res
  obtain ⟨f, hf⟩ : ∃ f, k + T - i = f + 1 := ⟨k + T - i - 1, by omega⟩
  rw [hf] at this
  rw [show k + T - (i + 1) = f by omega]
  exact this
theorem RowS.skip (h : RowS m k T S a c i q) (hi : i < k + T) (hp : poss k c i = false) : RowS m k T S a c (i + 1) q := by
  have := h.on hi
  rw [hp, if_neg (by decide)] at this
  exact ⟨h.good, h.ok, h.get, this⟩
theorem RowS.old (h : RowS m k T S a c i q) (hi : i < k + T) (hp : poss k c i = true) (hq : aftC m k c i ∈ q) : RowS m k T S a c (i + 1) q := by
  have := h.on hi
  rw [hp, if_pos rfl, addC_in hq] at this
  exact ⟨h.good, h.ok, h.get, this⟩
theorem RowS.new (hm : Ok m k T S) (h : RowS m k T S a c i q) (hi : i < k + T) (hp : poss k c i = true) (hq : aftC m k c i ∉ q) : RowS m k T S a c (i + 1) (q ++ [aftC m k c i]) := by
  have := h.on hi
  rw [hp, if_pos rfl, addC_new hq] at this
  refine ⟨h.good.snoc (aft_ok hm h.ok hi) hq, h.ok, ?_, this⟩
  rw [List.getElem?_append_left (List.getElem?_eq_some_iff.1 h.get).1]; exact h.get
theorem RowS.fin (h : RowS m k T S a c i q) (hi : ¬ i < k + T) : Sea m k T S (a + 1) q := by
  have := h.res
  rw [show k + T - i = 0 by omega] at this
  exact this
end
end Tm
/-- the reference's list of configurations, of the call's own -/
structure OwnC (w : World) (base T : Nat) (v : Value) (q : List (Tm.Cfg × Nat)) : Prop where
  own : OwnL (elC T) 2 w base 74 v q
  row : ∀ (i : Nat) p, q[i]? = some p → w.rowIs p.2 4 T (bits p.1.2) ∧ p.1.2.length = T
  ge : ∀ (i : Nat) p, q[i]? = some p → base ≤ p.2
theorem OwnC.keep {w w' : World} {base T : Nat} {v : Value} {q : List (Tm.Cfg × Nat)} (h : OwnC w base T v q) (hb : Below w.heap.size w w') : OwnC w' base T v q :=
  ⟨own_keep h.own hb, fun i p hp => ⟨rowIs_keep (h.row i p hp).1 hb, (h.row i p hp).2⟩, h.ge⟩
theorem OwnC.mono {w : World} {base base' T : Nat} {v : Value} {q : List (Tm.Cfg × Nat)} (h : OwnC w base T v q) (hb : base' ≤ base) : OwnC w base' T v q := ⟨own_mono h.own hb, h.row, fun i p hp => Nat.le_trans hb (h.ge i p hp)⟩
theorem OwnC.rd {w : World} {base T n c : Nat} {A : Option Addr} {q : List (Tm.Cfg × Nat)} (h : OwnC w base T (.slice A n c) q) (hn : q.length ≤ 1152921504606846976) : RdC w A T q :=
  ⟨(OwnL.rd (elC_len T) h.own hn).2, h.row⟩
theorem OwnC.one {w : World} {base T g r : Nat} {cf : Tm.Cfg} (hb : base ≤ g) (h : Blk w g 74 #[.int .i64 (cf.1 : Nat), .slice (some ⟨r, 0, none⟩) T T]) (hr : w.rowIs r 4 T (bits cf.2)) (hl : cf.2.length = T) (hbr : base ≤ r) : OwnC w base T (.slice (some ⟨g, 0, none⟩) 1 1) [(cf, r)] := by
  refine ⟨⟨rfl, .inr ⟨g, 1, _, rfl, hb, h, Nat.le_refl _, by unfold maxLen; omega, rfl, rfl⟩⟩, fun i p hp => ?_, fun i p hp => ?_⟩
  · cases i with
    | zero => simp at hp; subst hp; exact ⟨hr, hl⟩
    | succ i => simp at hp
  · cases i with
    | zero => simp at hp; subst hp; exact hbr
    | succ i => simp at hp
theorem OwnC.push {w w' : World} {base T : Nat} {v v' : Value} {q : List (Tm.Cfg × Nat)} {p : Tm.Cfg × Nat} {cs : Array Value} (h : OwnC w base T v q) (hp : w.rowIs p.2 4 T (bits p.1.2)) (hl : p.1.2.length = T) (hbr : base ≤ p.2) (ho : OwnL (elC T) 2 w' base 74 v' (q ++ [p])) (hg : (w.alloc (.cells cs 74)).grownBy w' v.ownBlock) : OwnC w' base T v' (q ++ [p]) := by
  have al : Below w.heap.size w (w.alloc (.cells cs 74)) := (Below.refl _ _).alloc (Nat.le_refl _) _
  have o2 := own_keep h.own al
  have key : ∀ g (f : Nat → Value), w.rowIs g 4 T f → w'.rowIs g 4 T f := by
    intro g f hr
    have h2 := rowIs_keep hr al
    refine h2.of_block (hg.block g (rowIs_lt h2) ?_)
    obtain ⟨c, hc, _⟩ := h2
    exact fun e => own_blk_ne (g := g) (t := 4) (cs := c) o2 (by unfold Blk; exact hc) (by decide) e.symm
  refine ⟨ho, fun i p' hp' => ?_, fun i p' hp' => ?_⟩
  rotate_left
  · rcases Nat.lt_or_ge i q.length with hi | hi
    · rw [List.getElem?_append_left hi] at hp'; exact h.ge i p' hp'
    · rw [List.getElem?_append_right hi] at hp'
      cases hj : i - q.length with
      | zero => rw [hj] at hp'; simp at hp'; subst hp'; exact hbr
      | succ j => rw [hj] at hp'; simp at hp'
  rcases Nat.lt_or_ge i q.length with hi | hi
  · rw [List.getElem?_append_left hi] at hp'
    exact ⟨key _ _ (h.row i p' hp').1, (h.row i p' hp').2⟩
  · rw [List.getElem?_append_right hi] at hp'
    cases hj : i - q.length with
    | zero => rw [hj] at hp'; simp at hp'; subst hp'; exact ⟨key _ _ hp, hl⟩
    | succ j => rw [hj] at hp'; simp at hp'
theorem poss_r' (m : Tm.M) (k T i : Nat) (cf : Tm.Cfg) (A B C R : Option Addr) (c d e r : Nat) (w : World) (hI : m.I = k) (hi : i < k + T) (ht : T ≤ 4) (hcf : cf.2.length = T) (hB : RdB w R cf.2) :
    Calls Try.prog 37 #[.agg #[.int .i64 m.I, .int .i64 m.T, .int .i64 m.S, .slice A m.nx.length c, .slice B m.out.length d, .slice C m.set.length e], .agg #[.int .i64 cf.1, .slice R T r], .int .i64 i] w fun e w' => e = .returned (.bool (Tm.poss k cf i)) ∧ Below w.heap.size w w' := by
  have := poss_r m k T i cf A B C R c d e r w hI hi ht hcf hB
  rw [hcf] at this
  exact this
theorem infoC : (Try.prog.info? 74).map (fun i => (i.zero, i.size, i.bytes)) = some (some (.agg #[.int .i64 0, .slice none 0 0]), 2, 32) := by kernel_rfl
set_option maxRecDepth 100000 in
set_option maxHeartbeats 8000000 in
theorem reachable_r (m : Tm.M) (A B C : Option Addr) (c d e k T S : Nat) (w : World) (hm : Tm.Ok m k T S) (hR : RdT w A B C m) :
    Calls Try.prog 26 #[.agg #[.int .i64 m.I, .int .i64 m.T, .int .i64 m.S, .slice A m.nx.length c, .slice B m.out.length d, .slice C m.set.length e]] w fun r w' => (∃ v, r = .returned v ∧ ∃ q, OwnC w' w.heap.size T v q ∧ q.map (·.1) = Tm.reach m k T S) ∧ Below w.heap.size w w' := by
  have HM := Lib.hid hm
  have h4 := hm.t4
  have h64 := hm.k64
  have h128 := hm.n128
  have HR := Lib.hid hR
  clear hm hR
  go_enter Try.func26, Try.ntmps26
  go_upto_region 1 with fail
  generalize hwb : World.alloc _ _ = w0
  have BX : Hid (Blk w0 w.heap.size 25 (tc m A c B d C e)) := Lib.hid (by rw [← hwb]; exact Blk.new _ _ _)
  have HBL : Hid (Below w.heap.size w w0) := Lib.hid (by rw [← hwb]; exact (Below.refl _ _).alloc (Nat.le_refl _) _)
  clear hwb
  have HT := Lib.hid (HR.out.keep HBL.out)
  clear HR
  have BT := Lib.hid (boxT BX.out)
  have c0 : w0.cell? ⟨w.heap.size, 0, none⟩ = some (.int .i64 (k : Nat)) := by have := BT.out.c0; rw [HM.out.I] at this; exact this
  have c2 := BT.out.c2
  rw [HM.out.S'] at c2
  have c1 := BT.out.c1
  rw [HM.out.T'] at c1
  clear BT
  have HC0 : Hid (∀ wz, Below w0.heap.size w0 wz → Blk wz w.heap.size 25 (tc m A c B d C e)) := Lib.hid (fun wz hz => BX.out.keep hz)
  have hmk1 := run_make_row' (P := Try.prog) 62 4 (.bool false) 1 Try.underlying62 info4 rfl .i64 .i64 T (by omega) (by omega)
  go_cut [3] (fun v wx => ∃ g r, v = .slice (some ⟨g, 0, none⟩) 1 1 ∧ Blk wx g 74 #[.int .i64 ((Tm.c0 S T).1 : Nat), .slice (some ⟨r, 0, none⟩) T T] ∧ wx.rowIs r 4 T (bits (Tm.c0 S T).2) ∧ w0.heap.size ≤ g ∧ w0.heap.size ≤ r ∧ Below w0.heap.size w0 wx)
  case first =>
    refine wp_region_held_drew (S := fun wx => Below w0.heap.size w0 wx) (by kernel_rfl) ((Below.refl _ _).drew) (fun hS => ?_)
    refine takeH (i := 0) (d := some 8) (v := ?_) rfl rfl (by kernel_rfl) (by kernel_rfl) (by kernel_rfl) (fun _ _ _ h => h) (Or.inl ⟨by rfl, ?_⟩) hS ?_
    rotate_left
    · intro wx hSx; clear hSx; first | (go_simp; done) | (go_simp; with_reducible rfl)
    simp only [Act.put, List.setIfInBounds_toArray, List.set_cons_zero, List.set_cons_succ]
    refine takeH (i := 1) (d := some 9) (v := ?_) rfl rfl (by kernel_rfl) (by kernel_rfl) (by kernel_rfl) (fun _ _ _ h => h) (Or.inl ⟨by rfl, ?_⟩) hS ?_
    rotate_left
    · intro wx hSx; have hSy : Below w0.heap.size w0 wx := hSx; have e0 := keep_cell hSy c2; have e1 := keep_cell hSy c1; clear hSy hSx; first | (go_simp; done) | (go_simp; with_reducible rfl)
    simp only [Act.put, List.setIfInBounds_toArray, List.set_cons_zero, List.set_cons_succ]
    refine takeH (i := 2) (d := some 10) (v := ?_) rfl rfl (by kernel_rfl) (by kernel_rfl) (by kernel_rfl) (fun _ _ _ h => h) (Or.inl ⟨by rfl, ?_⟩) hS ?_
    rotate_left
    · intro wx hSx; clear hSx; first | (go_simp; done) | (go_simp; with_reducible rfl)
    simp only [Act.put, List.setIfInBounds_toArray, List.set_cons_zero, List.set_cons_succ]
    refine takeH (i := 3) (d := some 11) (v := ?_) rfl rfl (by kernel_rfl) (by kernel_rfl) (by kernel_rfl) (fun _ _ _ h => h) (Or.inl ⟨by rfl, ?_⟩) hS ?_
    rotate_left
    · intro wx hSx; have hSy : Below w0.heap.size w0 wx := hSx; have e0 := keep_cell hSy c2; have e1 := keep_cell hSy c1; clear hSy hSx; first | (go_simp; done) | (go_simp; with_reducible rfl)
    simp only [Act.put, List.setIfInBounds_toArray, List.set_cons_zero, List.set_cons_succ]
    generalize hwa : World.drew _ = wa at hS ⊢
    clear hwa
    have HSa := Lib.hid hS
    clear hS
    refine wpAnyH_ready (rs := [4]) (by kernel_rfl) (by simp) ?_
    refine AllReadyH.cons rfl (fun K hK => ?_) AllReadyH.nil
    rw [if_pos (by rfl)]
    go_simp
    refine hK.out _ _ (Below.alloc HSa.out HSa.out.size _) (fun hS2 => ?_)
    clear hK K
    try simp only [Act.put, List.setIfInBounds_toArray, List.set_cons_zero, List.set_cons_succ]
    generalize hwb : World.alloc _ _ = wb at hS2 ⊢
    have R1 : Hid (wb.rowIs wa.heap.size 4 T (fun _ => .bool false)) := Lib.hid (by rw [← hwb]; exact World.rowIs_made _ _ _ _)
    have hgeR : w0.heap.size ≤ wa.heap.size := HSa.out.size
    replace HSa := Lib.hid hS2
    generalize wa.heap.size = gR1 at *
    clear hS2 hwb
    rename World => wa
    refine takeH (i := 5) (d := some 13) (v := ?_) rfl rfl (by kernel_rfl) (by kernel_rfl) (by kernel_rfl) (fun _ _ _ h => h) (Or.inl ⟨by rfl, ?_⟩) HSa.out ?_
    rotate_left
    · intro wx hSx; clear hSx; first | (go_simp; done) | (go_simp; with_reducible rfl)
    simp only [Act.put, List.setIfInBounds_toArray, List.set_cons_zero, List.set_cons_succ]
    refine wpAnyH_ready (rs := [6]) (by kernel_rfl) (by simp) ?_
    refine AllReadyH.cons rfl (fun K hK => ?_) AllReadyH.nil
    rw [if_pos (by rfl)]
    go_simp
    refine hK.out _ _ (Below.alloc HSa.out HSa.out.size _) (fun hS2 => ?_)
    clear hK K
    try simp only [Act.put, List.setIfInBounds_toArray, List.set_cons_zero, List.set_cons_succ]
    generalize hwb : World.alloc _ _ = wb at hS2 ⊢
    have hal : Below wa.heap.size wa wb := by rw [← hwb]; exact (Below.refl _ _).alloc (Nat.le_refl _) _
    replace R1 := Lib.hid (rowIs_keep R1.out hal)
    have K14 : Hid (Blk wb wa.heap.size 74 #[.int .i64 (S : Nat), .slice (some ⟨gR1, 0, none⟩) T T]) := Lib.hid (by rw [← hwb]; exact Blk.new _ _ _)
    have hge : w0.heap.size ≤ wa.heap.size := HSa.out.size
    replace HSa := Lib.hid hS2
    generalize wa.heap.size = gK at *
    clear hS2 hwb hal
    rename World => wa
    refine takeH (i := 7) (d := some 3) (v := ?_) rfl rfl (by kernel_rfl) (by kernel_rfl) (by kernel_rfl) (fun _ _ _ h => h) (Or.inl ⟨by rfl, ?_⟩) HSa.out ?_
    rotate_left
    · intro wx hSx; clear hSx; first | (go_simp; done) | (go_simp; with_reducible rfl)
    simp only [Act.put, List.setIfInBounds_toArray, List.set_cons_zero, List.set_cons_succ]
    refine wpAnyH_done (by kernel_rfl) ?_ _
    go_wp2_with fail
    go_meet
    exact ⟨gK, gR1, rfl, K14.out, R1.out.congr (fun x hx => by show _ = Value.bool ((List.replicate T false).getD x false); rw [List.getD_eq_getElem?_getD, List.getElem?_replicate, if_pos hx]; rfl), hge, hgeR, HSa.out⟩
  case rest =>
  obtain ⟨g0, r0, rfl, hk, hr, hg0, hr0, hbx⟩ := hcut
  rename World => w1
  have HO0 := Lib.hid (OwnC.one (base := w0.heap.size) hg0 hk hr (by simp [Tm.c0]) hr0)
  have HB0 := Lib.hid hbx
  clear hk hr hbx hmk1 c2
  go_upto_region 2 with fail
  go_wp2_with fail
  go_loopw [3, 4] (fun v a wr => ∃ (j : Nat) (q : List (Tm.Cfg × Nat)), a = .int .i64 j ∧ Hid (OwnC wr w0.heap.size T v q) ∧ Hid (Tm.Sea m k T S j (q.map (·.1))) ∧ Hid (Below w0.heap.size w0 wr)) (fun _ a _ => 3000 - (intOf a).toNat)
  case atStart => exact ⟨0, _, rfl, HO0, Lib.hid (Tm.Sea.start HM.out), HB0⟩
  case round =>
    clear HO0 HB0
    obtain ⟨j, q, rfl, HO, HS, HB⟩ := hrel
    obtain ⟨E, cE, rfl⟩ := own_slice HO.out.own
    have hql : q.length ≤ 2048 := by have := HS.out.good.len16 h4; rw [List.length_map] at this; omega
    by_cases hj : j < q.length
    rotate_left
    · have hj' : ¬ (j : Int) < (q.length : Int) := by omega
      go_wp2
      go_ret
      exact ⟨⟨_, rfl, q, HO.out.mono HBL.out.size, HS.out.fin (by rw [List.length_map]; exact hj)⟩, below_seq HBL.out HB.out⟩
    have hj' : (j : Int) < (q.length : Int) := by omega
    obtain ⟨cc, hcc⟩ : ∃ cc, (q.map (·.1))[j]? = some cc := ⟨_, List.getElem?_eq_getElem (by rw [List.length_map]; exact hj)⟩
    have HW := Lib.hid (Tm.RowS.start HM.out HS.out hcc)
    clear hcc HS
    go_upto_region 5 with fail
    clear hj hj' hql
    go_wp2_with fail
    go_loopw [3, 5] (fun v i wy => ∃ (x : Nat) (q : List (Tm.Cfg × Nat)), i = .int .i64 x ∧ Hid (OwnC wy w0.heap.size T v q) ∧ Hid (Tm.RowS m k T S j cc x (q.map (·.1))) ∧ Hid (Below w0.heap.size w0 wy)) (fun _ i _ => 100 - (intOf i).toNat)
    case atStart => exact ⟨0, _, rfl, HO, HW, HB⟩
    case round =>
      clear HO HW HB
      obtain ⟨x, q, rfl, HO, HW, HB⟩ := hrel
      rename World => wy
      have hsz : w0.heap.size ≤ wy.heap.size := HB.out.size
      obtain ⟨E, cE, rfl⟩ := own_slice HO.out.own
      have hql : q.length ≤ 2048 := by have := HW.out.good.len16 h4; rw [List.length_map] at this; omega
      have hjl : j < q.length := by have := (List.getElem?_eq_some_iff.1 HW.out.get).1; rw [List.length_map] at this; exact this
      have b0 := keep_cell HB.out c0
      have b1 := keep_cell HB.out c1
      by_cases hx : x < k + T
      rotate_left
      · have hx' : ¬ (x : Int) < (k : Int) + (T : Int) := by omega
        go_wp2_with fail
        go_roundw
        case rel => exact ⟨j + 1, q, by go_num, HO, Lib.hid (HW.out.fin hx), HB⟩
        case measure => simp [intOf] <;> omega
      have hx' : (x : Int) < (k : Int) + (T : Int) := by omega
      obtain ⟨gg, hgg⟩ : ∃ gg, q[j]? = some (cc, gg) := by
        have h1 := HW.out.get
        rw [List.getElem?_map] at h1
        obtain ⟨p, hp, e⟩ := Option.map_eq_some_iff.1 h1
        exact ⟨p.2, by rw [hp, ← e]⟩
      have HRD := Lib.hid (HO.out.rd (by omega))
      obtain ⟨ad, hE, hcell⟩ := HRD.out.rd.at_ hgg
      subst hE
      have hrow := HRD.out.row j _ hgg
      have HCL := Lib.hid (RdL.whole (w := wy) (ad := ad) (i := j) (x := (cc, gg)) (el := elC T) (size := 2) hcell)
      have HRW := Lib.hid hrow.1
      have HCC := Lib.hid hrow.2
      clear hcell hrow hgg
      go_upto_region 8 with fail
      clear hx' b0 b1
      go_cut [37] (fun b wx => b = .bool (!(Tm.poss k cc x)) ∧ Below wy.heap.size wy wx)
      case first =>
        refine wp_region_held_drew (S := fun wx => Below wy.heap.size wy wx) (by kernel_rfl) ((Below.refl _ _).drew) (fun hS => ?_)
        refine takeH (i := 0) (d := some 30) (v := .agg #[.int .i64 m.I, .int .i64 m.T, .int .i64 m.S, .slice A m.nx.length c, .slice B m.out.length d, .slice C m.set.length e]) rfl rfl (by kernel_rfl) (by kernel_rfl) (by kernel_rfl) (fun _ _ _ h => h) (yieldsIf_load_any (by rfl) 25 _ rfl ⟨w.heap.size, 0, none⟩ rfl [.int .i64 m.I, .int .i64 m.T, .int .i64 m.S, .slice A m.nx.length c, .slice B m.out.length d, .slice C m.set.length e] _ (fun wx hSx => ((HC0.out wx (HB.out.trans (Below.mono hSx hsz))).part 0 _ rfl)) Try.underlying25 rfl (by kernel_rfl)) hS ?_
        simp only [Act.put, List.setIfInBounds_toArray, List.set_cons_zero, List.set_cons_succ]
        refine takeH (i := 1) (d := some 31) (v := ?_) rfl rfl (by kernel_rfl) (by kernel_rfl) (by kernel_rfl) (fun _ _ _ h => h) (Or.inl ⟨by rfl, ?_⟩) hS ?_
        rotate_left
        · intro wx hSx; clear hSx; first | (go_simp; done) | (go_simp; with_reducible rfl)
        simp only [Act.put, List.setIfInBounds_toArray, List.set_cons_zero, List.set_cons_succ]
        refine takeH (i := 2) (d := some 32) (v := ?_) rfl rfl (by kernel_rfl) (by kernel_rfl) (by kernel_rfl) (fun _ _ _ h => h) (Or.inl ⟨by rfl, ?_⟩) hS ?_
        rotate_left
        · intro wx hSx; clear hSx; first | (go_simp; done) | (go_simp; with_reducible rfl)
        simp only [Act.put, List.setIfInBounds_toArray, List.set_cons_zero, List.set_cons_succ]
        refine takeH (i := 3) (d := some 33) (v := ?_) rfl rfl (by kernel_rfl) (by kernel_rfl) (by kernel_rfl) (fun _ _ _ h => h) (Or.inl ⟨by rfl, ?_⟩) hS ?_
        rotate_left
        · intro wx hSx; clear hSx; first | (go_simp; done) | (go_simp; with_reducible rfl)
        simp only [Act.put, List.setIfInBounds_toArray, List.set_cons_zero, List.set_cons_succ]
        refine takeH (i := 4) (d := some 34) (v := .agg #[.int .i64 (cc.1 : Nat), .slice (some ⟨gg, 0, none⟩) T T]) rfl rfl (by kernel_rfl) (by kernel_rfl) (by kernel_rfl) (fun _ _ _ h => h) (yieldsIf_load_any (by rfl) 74 _ rfl (ad.add (j * 2)) rfl [.int .i64 (cc.1 : Nat), .slice (some ⟨gg, 0, none⟩) T T] _ (fun wx hSx => (fun jj u hu => keep_cell hSx (HCL.out jj u hu))) Try.underlying74 rfl (by kernel_rfl)) hS ?_
        simp only [Act.put, List.setIfInBounds_toArray, List.set_cons_zero, List.set_cons_succ]
        refine takeH (i := 5) (d := some 35) (v := ?_) rfl rfl (by kernel_rfl) (by kernel_rfl) (by kernel_rfl) (fun _ _ _ h => h) (Or.inl ⟨by rfl, ?_⟩) hS ?_
        rotate_left
        · intro wx hSx; clear hSx; first | (go_simp; done) | (go_simp; with_reducible rfl)
        simp only [Act.put, List.setIfInBounds_toArray, List.set_cons_zero, List.set_cons_succ]
        generalize hwa : World.drew _ = wa at hS ⊢
        clear hwa
        have HSa := Lib.hid hS
        clear hS
        refine wpAnyH_ready (rs := [6]) (by kernel_rfl) (by simp) ?_
        refine AllReadyH.cons rfl (fun K hK => ?_) AllReadyH.nil
        rw [if_pos (by rfl)]
        try go_simp
        refine (poss_r' m k T x cc A B C (some ⟨gg, 0, none⟩) c d e T wa HM.out.I hx h4 HCC.out (rowB_rd (rowIs_keep HRW.out HSa.out) HCC.out (by omega))).mono ?_
        rintro r wv ⟨rfl, hb⟩
        refine hK.out _ _ (below_seq HSa.out hb) (fun hS2 => ?_)
        clear hK K
        try simp only [Act.put, List.setIfInBounds_toArray, List.set_cons_zero, List.set_cons_succ]
        replace HSa := Lib.hid hS2
        clear hS2 hb wa
        rename World => wa
        refine takeH (i := 7) (d := some 37) (v := ?_) rfl rfl (by kernel_rfl) (by kernel_rfl) (by kernel_rfl) (fun _ _ _ h => h) (Or.inl ⟨by rfl, ?_⟩) HSa.out ?_
        rotate_left
        · intro wx hSx; clear hSx; first | (go_simp; done) | (go_simp; with_reducible rfl)
        simp only [Act.put, List.setIfInBounds_toArray, List.set_cons_zero, List.set_cons_succ]
        refine wpAnyH_done (by kernel_rfl) ?_ _
        go_wp2_with fail
        go_meet
        exact ⟨rfl, HSa.out⟩
      case rest =>
      obtain ⟨rfl, hbx⟩ := hcut
      rename World => wx
      apply_assumption
      cases hp : Tm.poss k cc x with
      | false =>
        have HW2 := Lib.hid (HW.out.skip hx hp)
        go_wp2_with fail
        go_roundw
        case rel => exact ⟨x + 1, q, by go_num, HO.out.keep hbx, HW2, Lib.hid (below_seq HB.out hbx)⟩
        case measure => simp [intOf] <;> omega
      | true =>
        have HP := Lib.hid hp
        replace HO := Lib.hid (HO.out.keep hbx)
        replace HRW := Lib.hid (rowIs_keep HRW.out hbx)
        replace HCL := Lib.hid (fun jj u hu => keep_cell hbx (HCL.out jj u hu))
        replace HB := Lib.hid (below_seq HB.out hbx)
        replace hsz : w0.heap.size ≤ wx.heap.size := HB.out.size
        clear hp hbx HRD wy
        rename World => wy
        go_upto_region 9 with fail
        go_cut [6] (fun p wx => ∃ k6 g, p = .pointer (some ⟨k6, 0, none⟩) ∧ Blk wx k6 74 #[.int .i64 ((Tm.aftC m k cc x).1 : Nat), .slice (some ⟨g, 0, none⟩) T T] ∧ wx.rowIs g 4 T (bits (Tm.aftC m k cc x).2) ∧ wy.heap.size ≤ g ∧ Below wy.heap.size wy wx)
        case first =>
          refine wp_region_held_drew (S := fun wx => Below wy.heap.size wy wx) (by kernel_rfl) ((Below.refl _ _).drew) (fun hS => ?_)
          refine takeH (i := 0) (d := some 39) (v := .agg #[.int .i64 m.I, .int .i64 m.T, .int .i64 m.S, .slice A m.nx.length c, .slice B m.out.length d, .slice C m.set.length e]) rfl rfl (by kernel_rfl) (by kernel_rfl) (by kernel_rfl) (fun _ _ _ h => h) (yieldsIf_load_any (by rfl) 25 _ rfl ⟨w.heap.size, 0, none⟩ rfl [.int .i64 m.I, .int .i64 m.T, .int .i64 m.S, .slice A m.nx.length c, .slice B m.out.length d, .slice C m.set.length e] _ (fun wx hSx => ((HC0.out wx (HB.out.trans (Below.mono hSx hsz))).part 0 _ rfl)) Try.underlying25 rfl (by kernel_rfl)) hS ?_
          simp only [Act.put, List.setIfInBounds_toArray, List.set_cons_zero, List.set_cons_succ]
          refine takeH (i := 1) (d := some 40) (v := ?_) rfl rfl (by kernel_rfl) (by kernel_rfl) (by kernel_rfl) (fun _ _ _ h => h) (Or.inl ⟨by rfl, ?_⟩) hS ?_
          rotate_left
          · intro wx hSx; clear hSx; first | (go_simp; done) | (go_simp; with_reducible rfl)
          simp only [Act.put, List.setIfInBounds_toArray, List.set_cons_zero, List.set_cons_succ]
          refine takeH (i := 2) (d := some 41) (v := ?_) rfl rfl (by kernel_rfl) (by kernel_rfl) (by kernel_rfl) (fun _ _ _ h => h) (Or.inl ⟨by rfl, ?_⟩) hS ?_
          rotate_left
          · intro wx hSx; clear hSx; first | (go_simp; done) | (go_simp; with_reducible rfl)
          simp only [Act.put, List.setIfInBounds_toArray, List.set_cons_zero, List.set_cons_succ]
          refine takeH (i := 3) (d := some 42) (v := ?_) rfl rfl (by kernel_rfl) (by kernel_rfl) (by kernel_rfl) (fun _ _ _ h => h) (Or.inl ⟨by rfl, ?_⟩) hS ?_
          rotate_left
          · intro wx hSx; clear hSx; first | (go_simp; done) | (go_simp; with_reducible rfl)
          simp only [Act.put, List.setIfInBounds_toArray, List.set_cons_zero, List.set_cons_succ]
          refine takeH (i := 4) (d := some 43) (v := .agg #[.int .i64 (cc.1 : Nat), .slice (some ⟨gg, 0, none⟩) T T]) rfl rfl (by kernel_rfl) (by kernel_rfl) (by kernel_rfl) (fun _ _ _ h => h) (yieldsIf_load_any (by rfl) 74 _ rfl (ad.add (j * 2)) rfl [.int .i64 (cc.1 : Nat), .slice (some ⟨gg, 0, none⟩) T T] _ (fun wx hSx => (fun jj u hu => keep_cell hSx (HCL.out jj u hu))) Try.underlying74 rfl (by kernel_rfl)) hS ?_
          simp only [Act.put, List.setIfInBounds_toArray, List.set_cons_zero, List.set_cons_succ]
          refine takeH (i := 5) (d := some 44) (v := ?_) rfl rfl (by kernel_rfl) (by kernel_rfl) (by kernel_rfl) (fun _ _ _ h => h) (Or.inl ⟨by rfl, ?_⟩) hS ?_
          rotate_left
          · intro wx hSx; clear hSx; first | (go_simp; done) | (go_simp; with_reducible rfl)
          simp only [Act.put, List.setIfInBounds_toArray, List.set_cons_zero, List.set_cons_succ]
          generalize hwa : World.drew _ = wa at hS ⊢
          clear hwa
          have HSa := Lib.hid hS
          clear hS
          refine wpAnyH_ready (rs := [6, 10]) (by kernel_rfl) (by simp) ?_
          refine AllReadyH.cons rfl (fun K hK => ?_) (AllReadyH.cons rfl (fun K hK => ?_) AllReadyH.nil)
          · skip
            rw [if_pos (by rfl)]
            try go_simp
            refine (after_r m k T S cc x A B C (some ⟨gg, 0, none⟩) c d e T wa HM.out HW.out.ok hx (HT.out.keep (below_seq HB.out HSa.out)) (rowB_rd (rowIs_keep HRW.out HSa.out) HCC.out (by omega))).mono ?_
            rintro r wv ⟨⟨gN, rfl, hgN, hgg⟩, hb⟩
            have hgeN : wy.heap.size ≤ gN := Nat.le_trans HSa.out.size hgg
            clear hgg
            refine hK.out _ _ (below_seq HSa.out hb) (fun hS2 => ?_)
            clear hK K
            try simp only [Act.put, List.setIfInBounds_toArray, List.set_cons_zero, List.set_cons_succ]
            have RN := Lib.hid hgN
            replace HSa := Lib.hid hS2
            clear hS2 hb hgN wa
            rename World => wa
            refine takeH (i := 7) (d := some 38) (v := ?_) rfl rfl (by kernel_rfl) (by kernel_rfl) (by kernel_rfl) (fun _ _ _ h => h) (Or.inl ⟨by rfl, ?_⟩) HSa.out ?_
            rotate_left
            · intro wx hSx; clear hSx; first | (go_simp; done) | (go_simp; with_reducible rfl)
            simp only [Act.put, List.setIfInBounds_toArray, List.set_cons_zero, List.set_cons_succ]
            refine takeH (i := 8) (d := some 46) (v := ?_) rfl rfl (by kernel_rfl) (by kernel_rfl) (by kernel_rfl) (fun _ _ _ h => h) (Or.inl ⟨by rfl, ?_⟩) HSa.out ?_
            rotate_left
            · intro wx hSx; clear hSx; first | (go_simp; done) | (go_simp; with_reducible rfl)
            simp only [Act.put, List.setIfInBounds_toArray, List.set_cons_zero, List.set_cons_succ]
            refine takeH (i := 9) (d := some 47) (v := ?_) rfl rfl (by kernel_rfl) (by kernel_rfl) (by kernel_rfl) (fun _ _ _ h => h) (Or.inl ⟨by rfl, ?_⟩) HSa.out ?_
            rotate_left
            · intro wx hSx; clear hSx; first | (go_simp; done) | (go_simp; with_reducible rfl)
            simp only [Act.put, List.setIfInBounds_toArray, List.set_cons_zero, List.set_cons_succ]
            refine wpAnyH_ready (rs := [10]) (by kernel_rfl) (by simp) ?_
            refine AllReadyH.cons rfl (fun K hK => ?_) AllReadyH.nil
            rw [if_pos (by rfl)]
            go_simp
            refine hK.out _ _ (Below.alloc HSa.out HSa.out.size _) (fun hS2 => ?_)
            clear hK K
            try simp only [Act.put, List.setIfInBounds_toArray, List.set_cons_zero, List.set_cons_succ]
            generalize hwb : World.alloc _ _ = wb at hS2 ⊢
            have hal : Below wa.heap.size wa wb := by rw [← hwb]; exact (Below.refl _ _).alloc (Nat.le_refl _) _
            have K6 : Hid (Blk wb wa.heap.size 74 #[.int .i64 0, .slice none 0 0]) := Lib.hid (by rw [← hwb]; exact Blk.new _ _ _)
            have hgeK6 : wy.heap.size ≤ wa.heap.size := HSa.out.size
            replace RN := Lib.hid (rowIs_keep RN.out hal)
            replace HSa := Lib.hid hS2
            generalize wa.heap.size = kK6 at *
            clear hS2 hwb hal
            rename World => wa
            refine wpAnyH_ready (rs := [11]) (by kernel_rfl) (by simp) ?_
            refine AllReadyH.cons rfl (fun K hK => ?_) AllReadyH.nil
            rw [if_pos (by rfl)]
            refine wp_store_row 74 _ _ rfl kK6 #[.int .i64 ((Tm.aftC m k cc x).1 : Nat), .slice (some ⟨gN, 0, none⟩) T T] rfl rfl 74 _ K6.out (by kernel_rfl) rfl (by simp [Value.oneCell']) ?_
            refine hK.out _ _ (below_row HSa.out hgeK6 _) (fun hS2 => ?_)
            clear hK K
            change wpAnyH _ _ _ _ _ _ _ (Act.put _ none _) _
            try simp only [Act.put]
            generalize hwb : World.setRow _ _ _ = wb at hS2 ⊢
            replace RN := Lib.hid (show wb.rowIs _ _ _ _ by rw [← hwb]; exact rowIs_far RN.out (rowIs_ne RN.out K6.out (by decide)))
            replace K6 := Lib.hid (show Blk wb _ _ #[.int .i64 ((Tm.aftC m k cc x).1 : Nat), .slice (some ⟨gN, 0, none⟩) T T] by rw [← hwb]; exact set_row_blk K6.out)
            replace HSa := Lib.hid hS2
            clear hS2 hwb wa
            rename World => wa
            refine takeH (i := 12) (d := some 7) (v := ?_) rfl rfl (by kernel_rfl) (by kernel_rfl) (by kernel_rfl) (fun _ _ _ h => h) (Or.inl ⟨by rfl, ?_⟩) HSa.out ?_
            rotate_left
            · intro wx hSx; clear hSx; first | (go_simp; done) | (go_simp; with_reducible rfl)
            simp only [Act.put, List.setIfInBounds_toArray, List.set_cons_zero, List.set_cons_succ]
            refine wpAnyH_done (by kernel_rfl) ?_ _
            go_wp2_with fail
            go_meet
            exact ⟨kK6, gN, rfl, K6.out, RN.out, hgeN, HSa.out⟩
          · skip
            rw [if_pos (by rfl)]
            go_simp
            refine hK.out _ _ (Below.alloc HSa.out HSa.out.size _) (fun hS2 => ?_)
            clear hK K
            try simp only [Act.put, List.setIfInBounds_toArray, List.set_cons_zero, List.set_cons_succ]
            generalize hwb : World.alloc _ _ = wb at hS2 ⊢
            have hal : Below wa.heap.size wa wb := by rw [← hwb]; exact (Below.refl _ _).alloc (Nat.le_refl _) _
            have K6 : Hid (Blk wb wa.heap.size 74 #[.int .i64 0, .slice none 0 0]) := Lib.hid (by rw [← hwb]; exact Blk.new _ _ _)
            have hgeK6 : wy.heap.size ≤ wa.heap.size := HSa.out.size
            replace HSa := Lib.hid hS2
            generalize wa.heap.size = kK6 at *
            clear hS2 hwb hal
            rename World => wa
            refine wpAnyH_ready (rs := [6]) (by kernel_rfl) (by simp) ?_
            refine AllReadyH.cons rfl (fun K hK => ?_) AllReadyH.nil
            rw [if_pos (by rfl)]
            try go_simp
            refine (after_r m k T S cc x A B C (some ⟨gg, 0, none⟩) c d e T wa HM.out HW.out.ok hx (HT.out.keep (below_seq HB.out HSa.out)) (rowB_rd (rowIs_keep HRW.out HSa.out) HCC.out (by omega))).mono ?_
            rintro r wv ⟨⟨gN, rfl, hgN, hgg⟩, hb⟩
            have hgeN : wy.heap.size ≤ gN := Nat.le_trans HSa.out.size hgg
            clear hgg
            refine hK.out _ _ (below_seq HSa.out hb) (fun hS2 => ?_)
            clear hK K
            try simp only [Act.put, List.setIfInBounds_toArray, List.set_cons_zero, List.set_cons_succ]
            have RN := Lib.hid hgN
            replace K6 := Lib.hid (K6.out.keep hb)
            replace HSa := Lib.hid hS2
            clear hS2 hb hgN wa
            rename World => wa
            refine takeH (i := 7) (d := some 38) (v := ?_) rfl rfl (by kernel_rfl) (by kernel_rfl) (by kernel_rfl) (fun _ _ _ h => h) (Or.inl ⟨by rfl, ?_⟩) HSa.out ?_
            rotate_left
            · intro wx hSx; clear hSx; first | (go_simp; done) | (go_simp; with_reducible rfl)
            simp only [Act.put, List.setIfInBounds_toArray, List.set_cons_zero, List.set_cons_succ]
            refine takeH (i := 8) (d := some 46) (v := ?_) rfl rfl (by kernel_rfl) (by kernel_rfl) (by kernel_rfl) (fun _ _ _ h => h) (Or.inl ⟨by rfl, ?_⟩) HSa.out ?_
            rotate_left
            · intro wx hSx; clear hSx; first | (go_simp; done) | (go_simp; with_reducible rfl)
            simp only [Act.put, List.setIfInBounds_toArray, List.set_cons_zero, List.set_cons_succ]
            refine takeH (i := 9) (d := some 47) (v := ?_) rfl rfl (by kernel_rfl) (by kernel_rfl) (by kernel_rfl) (fun _ _ _ h => h) (Or.inl ⟨by rfl, ?_⟩) HSa.out ?_
            rotate_left
            · intro wx hSx; clear hSx; first | (go_simp; done) | (go_simp; with_reducible rfl)
            simp only [Act.put, List.setIfInBounds_toArray, List.set_cons_zero, List.set_cons_succ]
            refine wpAnyH_ready (rs := [11]) (by kernel_rfl) (by simp) ?_
            refine AllReadyH.cons rfl (fun K hK => ?_) AllReadyH.nil
            rw [if_pos (by rfl)]
            refine wp_store_row 74 _ _ rfl kK6 #[.int .i64 ((Tm.aftC m k cc x).1 : Nat), .slice (some ⟨gN, 0, none⟩) T T] rfl rfl 74 _ K6.out (by kernel_rfl) rfl (by simp [Value.oneCell']) ?_
            refine hK.out _ _ (below_row HSa.out hgeK6 _) (fun hS2 => ?_)
            clear hK K
            change wpAnyH _ _ _ _ _ _ _ (Act.put _ none _) _
            try simp only [Act.put]
            generalize hwb : World.setRow _ _ _ = wb at hS2 ⊢
            replace RN := Lib.hid (show wb.rowIs _ _ _ _ by rw [← hwb]; exact rowIs_far RN.out (rowIs_ne RN.out K6.out (by decide)))
            replace K6 := Lib.hid (show Blk wb _ _ #[.int .i64 ((Tm.aftC m k cc x).1 : Nat), .slice (some ⟨gN, 0, none⟩) T T] by rw [← hwb]; exact set_row_blk K6.out)
            replace HSa := Lib.hid hS2
            clear hS2 hwb wa
            rename World => wa
            refine takeH (i := 12) (d := some 7) (v := ?_) rfl rfl (by kernel_rfl) (by kernel_rfl) (by kernel_rfl) (fun _ _ _ h => h) (Or.inl ⟨by rfl, ?_⟩) HSa.out ?_
            rotate_left
            · intro wx hSx; clear hSx; first | (go_simp; done) | (go_simp; with_reducible rfl)
            simp only [Act.put, List.setIfInBounds_toArray, List.set_cons_zero, List.set_cons_succ]
            refine wpAnyH_done (by kernel_rfl) ?_ _
            go_wp2_with fail
            go_meet
            exact ⟨kK6, gN, rfl, K6.out, RN.out, hgeN, HSa.out⟩
        case rest =>
          obtain ⟨k6, gn, rfl, hk6, hrn, hgn, hbx⟩ := hcut
          have HGN := Lib.hid (Nat.le_trans hsz hgn)
          clear hgn
          rename World => wx
          have hsx := hbx.size
          have HA := Lib.hid (Tm.aft_ok HM.out HW.out.ok hx)
          have hal : (Tm.aftC m k cc x).2.length = T := HA.out.2
          have HPL := Lib.hid (place_r (some ad) (some ⟨gn, 0, none⟩) cE T T q (Tm.aftC m k cc x) wx ((HO.out.keep hbx).rd (by omega)) (rowB_rd hrn hal (by omega)) hal h4 (by omega))
          have K6 := Lib.hid hk6
          clear hk6
          go_wp2_with (first | (refine wpList_load_row rfl 74 _ rfl k6 rfl 74 #[.int .i64 ((Tm.aftC m k cc x).1 : Nat), .slice (some ⟨gn, 0, none⟩) T T] (0, 0) _ K6.out Try.underlying74 rfl (by kernel_rfl) ?_))
          refine HPL.out.mono ?_
          rintro r w5 ⟨rfl, hb5⟩
          have hlen : (q.map (·.1)).length = q.length := by simp
          have HO5 := Lib.hid ((HO.out.keep hbx).keep hb5)
          replace K6 := Lib.hid (K6.out.keep hb5)
          have RN := Lib.hid (rowIs_keep hrn hb5)
          have HB5 := Lib.hid (below_seq HB.out (below_seq hbx hb5))
          have hs5 : w0.heap.size ≤ w5.heap.size := HB5.out.size
          have HAL := Lib.hid hal
          have HLN := Lib.hid hlen
          clear HO HB hbx hb5 hrn HPL hal hlen hsx hsz HRW HCL
          by_cases hin : (Tm.aftC m k cc x) ∈ q.map (·.1)
          · have HI := Lib.hid (HW.out.old hx HP.out hin)
            obtain ⟨ix, hix⟩ : ∃ ix, ix = Tm.idx (q.map (·.1)) (Tm.aftC m k cc x) := ⟨_, rfl⟩
            have hlt := Tm.idx_lt.2 hin
            rw [← hix] at hlt ⊢
            rw [HLN.out] at hlt
            have hne : ¬ (ix : Int) = (q.length : Int) := by omega
            have hne2 : ((ix : Int) == (q.length : Int)) = false := beq_eq_false_iff_ne.2 hne
            clear hix hlt hin
            go_wp2_with fail
            go_roundw
            case rel => exact ⟨x + 1, q, by go_num, HO5, HI, HB5⟩
            case measure => simp [intOf] <;> omega
          · have HI := Lib.hid (Tm.RowS.new HM.out HW.out hx HP.out hin)
            rw [Tm.idx_eq.2 hin, HLN.out]
            have hq6 : q.length ≤ 1099511627776 := by omega
            clear hin
            go_upto_region 11 with fail
            go_wp2_with (first | (refine wpList_load_row rfl 74 _ rfl k6 rfl 74 #[.int .i64 ((Tm.aftC m k cc x).1 : Nat), .slice (some ⟨gn, 0, none⟩) T T] (0, 0) _ K6.out Try.underlying74 rfl (by kernel_rfl) ?_) | (at_builtin; refine appL (elC_len T) (by decide) rfl (.tmp 54) (.tmp 56) 71 74 _ _ rfl Try.underlying71 infoC rfl (by decide) (y := ((Tm.aftC m k cc x), gn)) rfl rfl rfl rfl HO5.out.own (by intro u hu; simp [elC] at hu; rcases hu with rfl | rfl <;> rfl) hq6 hs5 ?_; intro v5 w6 hown' hgr' _ hbb _))
            have HO6 := Lib.hid (HO5.out.push RN.out HAL.out HGN.out hown' hgr')
            have HB6 := Lib.hid (hbb w0.heap.size w0 (Nat.le_refl _) HB5.out)
            clear hown' hgr' hbb
            go_wp2_with fail
            go_roundw
            case rel => exact ⟨x + 1, q ++ [((Tm.aftC m k cc x), gn)], by go_num, HO6, (by rw [List.map_append]; exact HI), HB6⟩
            case measure => simp [intOf] <;> omega
end Go.Proofs.Ytpcoddbkcelaoaa
