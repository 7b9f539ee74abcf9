/- The reference's table of the timers that run. -/
import Derived.Test.YtpcoddbkcelaoaaRch
import Derived.Test.YtpcoddbkcelaoaaSml
import Derived.Test.YtpcoddbkcelaoaaTRow
import Derived.OneCell
namespace Go.Proofs.Ytpcoddbkcelaoaa
open Go.RowKit

abbrev elG (T : Nat) (g : Nat) : List Value := [.slice (some ⟨g, 0, none⟩) T T]
theorem elG_len (T g : Nat) : (elG T g).length = 1 := rfl
/-- rows of bools, of the call's own -/
structure Grid (w : World) (base T : Nat) (v : Value) (gs : List Nat) (f : Nat → Nat → Bool) : Prop where
  own : OwnL (elG T) 1 w base 62 v gs
  row : ∀ (s g : Nat), gs[s]? = some g → w.rowIs g 4 T (fun x => .bool (f s x))
  ge : ∀ (s g : Nat), gs[s]? = some g → base ≤ g
  nd : gs.Nodup
section
variable {w w' : World} {base T : Nat} {v v' : Value} {gs : List Nat} {f f' : Nat → Nat → Bool}
theorem Grid.keep (h : Grid w base T v gs f) (hb : Below w.heap.size w w') : Grid w' base T v gs f :=
  ⟨own_keep h.own hb, fun s g hg => rowIs_keep (h.row s g hg) hb, h.ge, h.nd⟩
theorem Grid.mono {base' : Nat} (h : Grid w base T v gs f) (hb : base' ≤ base) : Grid w base' T v gs f :=
  ⟨own_mono h.own hb, h.row, fun s g hg => Nat.le_trans hb (h.ge s g hg), h.nd⟩
theorem Grid.congr (h : Grid w base T v gs f) (e : ∀ s x, s < gs.length → x < T → f s x = f' s x) : Grid w base T v gs f' :=
  ⟨h.own, fun s g hg => (h.row s g hg).congr fun x hx => by show Value.bool _ = _; rw [e s x (List.getElem?_eq_some_iff.1 hg).1 hx], h.ge, h.nd⟩
theorem Grid.nil (w : World) (base T : Nat) : Grid w base T (.slice none 0 0) [] (fun _ _ => false) :=
  ⟨World.ownsRow_nil _ _ _ _, fun s g hg => by simp at hg, fun s g hg => by simp at hg, List.nodup_nil⟩
theorem Grid.store (h : Grid w base T v gs f) {s g x : Nat} (hg : gs[s]? = some g) (b : Bool) : Grid (w.setCell ⟨g, x, none⟩ (.bool b)) base T v gs (fun s' x' => if s' = s ∧ x' = x then b else f s' x') := by
  obtain ⟨c, hc, _⟩ := h.row s g hg
  refine ⟨ownsRow_setCell_other h.own (own_blk_ne (g := g) (t := 4) (cs := c) h.own (by unfold Blk; exact hc) (by decide)) _, fun s' g' hg' => ?_, h.ge, h.nd⟩
  by_cases e : s' = s
  · subst e
    obtain rfl : g = g' := by rw [hg] at hg'; exact Option.some.inj hg'
    refine ((h.row _ _ hg).set x _).congr fun i hi => ?_
    by_cases e2 : i = x
    · subst e2; simp
    · simp [e2]
  · have hne : g' ≠ g := by
      rintro rfl
      exact e ((List.getElem?_inj (List.getElem?_eq_some_iff.1 hg').1 h.nd).1 (hg'.trans hg.symm))
    refine ((h.row _ _ hg').setOther (a := ⟨g, x, none⟩) hne _).congr fun i hi => ?_
    simp [e]
/-- a row more: the row lies in the block ahead of the list's last box -/
theorem Grid.push {cs : Array Value} {g : Nat} (h : Grid w base T v gs f) (hbs : base ≤ w.heap.size) (ho : OwnL (elG T) 1 w' base 62 v' (gs ++ [g])) (e : g = w.heap.size) (hf : ∀ x, f gs.length x = false) (hg : ((w.alloc (.cells (madeCells #[.bool false] T) 4)).alloc (.cells cs 62)).grownBy w' v.ownBlock) : Grid w' base T v' (gs ++ [g]) f := by
  subst e
  have a1 : Below w.heap.size w (w.alloc (.cells (madeCells #[.bool false] T) 4)) := (Below.refl _ _).alloc (Nat.le_refl _) _
  have r1 : (w.alloc (.cells (madeCells #[.bool false] T) 4)).rowIs w.heap.size 4 T (fun _ => .bool false) := World.rowIs_made _ _ _ _
  generalize w.alloc (.cells (madeCells #[.bool false] T) 4) = wa at *
  have a2 : Below wa.heap.size wa (wa.alloc (.cells cs 62)) := (Below.refl _ _).alloc (Nat.le_refl _) _
  have o2 := own_keep (own_keep h.own a1) a2
  have key : ∀ g (f : Nat → Value), wa.rowIs g 4 T f → w'.rowIs g 4 T f := by
    intro g f hr
    have h2 := rowIs_keep hr a2
    refine h2.of_block (hg.block g (rowIs_lt h2) ?_)
    obtain ⟨c, hc, _⟩ := h2
    exact fun e => own_blk_ne (g := g) (t := 4) (cs := c) o2 (by unfold Blk; exact hc) (by decide) e.symm
  have parts : ∀ (s g : Nat), (gs ++ [w.heap.size])[s]? = some g → (gs[s]? = some g) ∨ (s = gs.length ∧ g = w.heap.size) := by
    intro s g hs
    rcases Nat.lt_or_ge s gs.length with hi | hi
    · rw [List.getElem?_append_left hi] at hs; exact .inl hs
    · rw [List.getElem?_append_right hi] at hs
      cases hj : s - gs.length with
      | zero => rw [hj] at hs; simp at hs; exact .inr ⟨by omega, hs.symm⟩
      | succ j => rw [hj] at hs; simp at hs
  refine ⟨ho, fun s g hs => ?_, fun s g hs => ?_, ?_⟩
  · rcases parts s g hs with h1 | ⟨rfl, rfl⟩
    · exact key _ _ (rowIs_keep (h.row s g h1) a1)
    · exact (key _ _ r1).congr fun x _ => by show Value.bool false = _; rw [hf x]
  · rcases parts s g hs with h1 | ⟨rfl, rfl⟩
    · exact h.ge s g h1
    · exact hbs
  · rw [List.nodup_append]
    refine ⟨h.nd, by simp, fun a ha b hb => ?_⟩
    simp at hb; subst hb
    obtain ⟨s, hs⟩ := List.getElem?_of_mem ha
    exact Nat.ne_of_lt (rowIs_lt (h.row s a hs))
theorem Grid.rd {A : Option Addr} {n c N : Nat} (h : Grid w base T (.slice A n c) gs f) (hl : gs.length = N) (hN : N ≤ 1000) (hT : T ≤ 1000) : n = N ∧ RdBB w A ((List.range N).map fun s => (List.range T).map fun x => f s x) := by
  have h1 := OwnL.rd (elG_len T) h.own (by omega)
  refine ⟨by rw [h1.1, hl], by simp; omega, fun hp => ?_⟩
  have hp' : 0 < gs.length := by rw [hl]; simpa using hp
  obtain ⟨ad, rfl, hc⟩ := h1.2.2 hp'
  refine ⟨ad, rfl, fun i hi => ?_⟩
  have hi' : i < N := by simpa using hi
  have e : gs[i]? = some gs[i] := List.getElem?_eq_getElem (by omega)
  have hx : (((List.range N).map fun s => (List.range T).map fun x => f s x).getD i []) = (List.range T).map fun x => f i x := by
    rw [List.getD_eq_getElem?_getD, List.getElem?_map, List.getElem?_range hi']; rfl
  have hxl : ((List.range T).map fun x => f i x).length = T := by simp
  rw [hx, hxl]
  refine ⟨some ⟨gs[i], 0, none⟩, T, by have := hc i _ e 0 _ rfl; simpa using this, rowB_rd ((h.row i _ e).congr fun x hx => ?_) hxl hT⟩
  rw [List.getD_eq_getElem?_getD, List.getElem?_map, List.getElem?_range hx]; rfl
end
theorem OwnC.far {w : World} {base T g x : Nat} {v u : Value} {q : List (Tm.Cfg × Nat)} {f : Nat → Value} (h : OwnC w base T v q) (hr : w.rowIs g 4 T f) (hg : g < base) : OwnC (w.setCell ⟨g, x, none⟩ u) base T v q := by
  obtain ⟨c, hc, _⟩ := hr
  exact ⟨ownsRow_setCell_other h.own (own_blk_ne (g := g) (t := 4) (cs := c) h.own (by unfold Blk; exact hc) (by decide)) _, fun i p hp => ⟨(h.row i p hp).1.setOther (a := ⟨g, x, none⟩) (by have := h.ge i p hp; show p.2 ≠ g; omega) _, (h.row i p hp).2⟩, h.ge⟩
theorem infoG : (Try.prog.info? 62).map (fun i => (i.zero, i.size, i.bytes)) = some (some (.slice none 0 0), 1, 24) := by kernel_rfl
/-- what Active hands back -/
def ActP (m : Tm.M) (w : World) (r : Ending) (w' : World) : Prop :=
  (∃ v, r = .returned (.tuple #[v, .int .i64 (Tm.validE m)]) ∧ ((Tm.validE m ≠ 0 ∧ v = .slice none 0 0) ∨ (∃ k T S A c, Tm.Ok m k T S ∧ v = .slice A m.nx.length c ∧ RdBB w' A (Tm.actT (Tm.reach m k T S) m.nx.length T)))) ∧ Below w.heap.size w w'
set_option maxRecDepth 100000 in
set_option maxHeartbeats 8000000 in
theorem active_r (m : Tm.M) (A B C : Option Addr) (c d e : Nat) (w : World) (hR : RdT w A B C m) :
    Calls Try.prog 12 #[.agg #[.int .i64 m.I, .int .i64 m.T, .int .i64 m.S, .slice A m.nx.length c, .slice B m.out.length d, .slice C m.set.length e]] w (ActP m w) := by
  have HR := Lib.hid hR
  clear hR
  go_enter Try.func12, Try.ntmps12
  go_upto_region 1 with fail
  generalize hwb : World.alloc _ _ = w0
  have BX : Hid (Blk w0 w.heap.size 25 (tc m A c B d C e)) := Lib.hid (by rw [← hwb]; exact Blk.new _ _ _)
  have HBL : Hid (Below w.heap.size w w0) := Lib.hid (by rw [← hwb]; exact (Below.refl _ _).alloc (Nat.le_refl _) _)
  clear hwb
  go_wp2_with (first | (refine wpList_load_row rfl 25 _ rfl w.heap.size rfl 25 (tc m A c B d C e) (0, 0) _ BX.out Try.underlying25 rfl (by kernel_rfl) ?_))
  refine (tvalid_r m A B C c d e w0 (HR.out.keep HBL.out)).mono ?_
  rintro r w1 ⟨rfl, hb⟩
  replace BX := Lib.hid (BX.out.keep hb)
  replace HBL := Lib.hid (below_seq HBL.out hb)
  clear hb w0
  by_cases hv : Tm.validE m = 0
  rotate_left
  · have HV := Lib.hid hv
    obtain ⟨q, hq⟩ : ∃ q, q = Tm.validE m := ⟨_, rfl⟩
    rw [← hq] at hv ⊢
    have hbz : (q != 0) = true := by rw [bne_iff_ne]; exact hv
    have HQ := Lib.hid hq
    clear hv hq
    go_wp2
    go_ret2
    rw [HQ.out]
    exact ⟨⟨_, rfl, .inl ⟨HV.out, rfl⟩⟩, HBL.out⟩
  have HV := Lib.hid hv
  rw [hv]
  obtain ⟨k, T, S, hok⟩ := Tm.ok_of hv
  have HM := Lib.hid hok
  have h4 := hok.t4
  have h64 := hok.k64
  have h128 := hok.n128
  clear hv hok
  have HT := Lib.hid (HR.out.keep HBL.out)
  clear HR
  have BT := Lib.hid (boxT BX.out)
  have c3 := BT.out.c3
  have c1 := BT.out.c1
  rw [HM.out.T'] at c1
  have HC0 : Hid (∀ wz, Below w1.heap.size w1 wz → Blk wz w.heap.size 25 (tc m A c B d C e)) := Lib.hid (fun wz hz => BX.out.keep hz)
  have hmk1 := run_make_row' (P := Try.prog) 62 4 (.bool false) 1 Try.underlying62 info4 rfl .i64 .i64 T (by omega) (by omega)
  clear BT
  go_upto_region 5 with fail
  go_wp2_with fail
  go_loopw [5, 6] (fun v i wr => ∃ (j : Nat) (gs : List Nat), j ≤ m.nx.length ∧ i = .int .i64 j ∧ gs.length = j ∧ Hid (Grid wr w1.heap.size T v gs (fun _ _ => false)) ∧ Hid (Below w1.heap.size w1 wr)) (fun _ i _ => m.nx.length - (intOf i).toNat)
  case atStart => exact ⟨0, [], Nat.zero_le _, rfl, rfl, Lib.hid (Grid.nil _ _ _), Lib.hid (Below.refl _ _)⟩
  case round =>
    obtain ⟨j, gs, hj, rfl, hgl, HG, HB⟩ := hrel
    obtain ⟨E, cE, rfl⟩ := own_slice HG.out.own
    have b3 := keep_cell HB.out c3
    have b1 := keep_cell HB.out c1
    by_cases hjl : j < m.nx.length
    · have hj' : (j : Int) < (m.nx.length : Int) := by omega
      have hq6 : gs.length ≤ 1099511627776 := by omega
      have hsz : w1.heap.size ≤ wr.heap.size := HB.out.size
      have hal : Below wr.heap.size wr (wr.alloc (.cells (madeCells #[.bool false] T) 4)) := (Below.refl _ _).alloc (Nat.le_refl _) _
      have HO2 := Lib.hid (own_keep HG.out.own hal)
      have hsz2 : w1.heap.size ≤ (wr.alloc (.cells (madeCells #[.bool false] T) 4)).heap.size := Nat.le_trans hsz hal.size
      have HAL := Lib.hid hal
      clear hal
      go_wp2_with (at_builtin; refine appL (elG_len T) (by decide) rfl (.tmp 22) (.tmp 26) 28 62 _ _ rfl Try.underlying28 infoG rfl (by decide) (y := wr.heap.size) rfl rfl rfl (asize _ _).symm HO2.out (by intro u hu; simp [elG] at hu; subst hu; rfl) hq6 hsz2 ?_; intro v5 w6 hown' hgr' _ hbb _)
      have HG6 := Lib.hid (HG.out.push hsz hown' rfl (fun _ => rfl) hgr')
      have HB6 := Lib.hid (hbb w1.heap.size w1 (Nat.le_refl _) (below_seq HB.out HAL.out))
      clear hown' hgr' hbb
      go_wp2_with fail
      go_roundw
      case rel => exact ⟨j + 1, gs ++ [wr.heap.size], by omega, by go_num, by simp [hgl], HG6, HB6⟩
      case measure => simp [intOf] <;> omega
    have hj' : ¬ (j : Int) < (m.nx.length : Int) := by omega
    obtain rfl : j = m.nx.length := by omega
    clear hjl hj
    go_upto_region 9 with fail
    clear b3 b1 hj'
    go_wp2_with (first | (refine wpList_load_row rfl 25 _ rfl w.heap.size rfl 25 (tc m A c B d C e) (0, 0) _ (HC0.out _ HB.out) Try.underlying25 rfl (by kernel_rfl) ?_))
    refine (reachable_r m A B C c d e k T S wr HM.out (HT.out.keep HB.out)).mono ?_
    rintro r w2 ⟨⟨v7, rfl, q, hq, hqr⟩, hb⟩
    have HQR := Lib.hid hqr
    have HG2 := Lib.hid ((HG.out.keep hb).congr (f' := fun s x => Tm.actv ((q.map (·.1)).take 0) s x) (fun s x _ _ => rfl))
    have HB2 := Lib.hid (below_seq HB.out hb)
    have HLT : Hid (∀ (s g : Nat), gs[s]? = some g → g < wr.heap.size) := Lib.hid (fun s g hg => rowIs_lt (HG.out.row s g hg))
    have HO2 := Lib.hid hq
    have hql : q.length ≤ 2048 := by have := (Tm.reach_good HM.out).len16 h4; rw [← hqr, List.length_map] at this; omega
    obtain ⟨E7, c7, rfl⟩ := own_slice hq.own
    clear hq hqr hb hmk1 HG HB
    generalize wr.heap.size = b2 at *
    clear wr
    rename World => w2
    go_wp2_with fail
    go_loopw [8] (fun i wy => ∃ a : Nat, a ≤ q.length ∧ i = .int .i64 a ∧ Hid (Grid wy w1.heap.size T (.slice E gs.length cE) gs (fun s x => Tm.actv ((q.map (·.1)).take a) s x)) ∧ Hid (OwnC wy b2 T (.slice E7 q.length c7) q) ∧ Hid (Below w1.heap.size w1 wy)) (fun i _ => q.length - (intOf i).toNat)
    case atStart => exact ⟨0, Nat.zero_le _, rfl, HG2, HO2, HB2⟩
    case round =>
      clear HG2 HO2 HB2
      obtain ⟨a, ha, rfl, HG, HO, HB⟩ := hrel
      rename World => wy
      by_cases hal : a < q.length
      rotate_left
      · obtain rfl : a = q.length := by omega
        go_wp2
        go_ret2
        refine ⟨⟨_, by rw [HV.out]; rfl, .inr ⟨k, T, S, E, cE, HM.out, rfl, ?_⟩⟩, below_seq HBL.out HB.out⟩
        have h1 := (HG.out.rd hgl (by omega) (by omega)).2
        rw [show (q.map (·.1)).take q.length = Tm.reach m k T S by rw [← HQR.out]; exact List.take_of_length_le (by simp)] at h1
        exact h1
      have hal' : (a : Int) < (q.length : Int) := by omega
      obtain ⟨cc, hcc⟩ : ∃ cc, (q.map (·.1))[a]? = some cc := ⟨_, List.getElem?_eq_getElem (by rw [List.length_map]; exact hal)⟩
      have HOK := Lib.hid ((Tm.reach_good HM.out).ok cc (by rw [← HQR.out]; exact List.mem_of_getElem? hcc))
      have HCC := Lib.hid hcc
      clear hcc
      go_upto_region 13 with fail
      clear hal' ha
      go_wp2_with fail
      go_loopw [9] (fun i wy => ∃ x : Nat, x ≤ T ∧ i = .int .i64 x ∧ Hid (Grid wy w1.heap.size T (.slice E gs.length cE) gs (fun s y => Tm.actv ((q.map (·.1)).take a) s y || (decide (cc.1 = s) && decide (y < x) && cc.2.getD y false))) ∧ Hid (OwnC wy b2 T (.slice E7 q.length c7) q) ∧ Hid (Below w1.heap.size w1 wy)) (fun i _ => T - (intOf i).toNat)
      case atStart => exact ⟨0, Nat.zero_le _, rfl, Lib.hid (HG.out.congr fun s x _ _ => by simp), HO, HB⟩
      case round =>
        clear HG HO HB
        obtain ⟨x, hx, rfl, HG, HO, HB⟩ := hrel
        rename World => wz
        have b1 := keep_cell HB.out c1
        by_cases hxT : x < T
        rotate_left
        · obtain rfl : x = T := by omega
          go_wp2_with fail
          go_roundw
          case rel => exact ⟨a + 1, by omega, by go_num, Lib.hid (HG.out.congr fun s y _ hy => by rw [Tm.actv_take HCC.out, decide_eq_true hy, Bool.and_true]), HO, HB⟩
          case measure => simp [intOf] <;> omega
        have hxT' : (x : Int) < (T : Int) := by omega
        obtain ⟨ad, s, r, g, rfl, hsr, cs, cr, hrow, hrl⟩ := (HO.out.rd (by omega)).at_ hal
        obtain rfl : cc = (s, r) := by have := HCC.out; rw [hsr] at this; exact (Option.some.inj this).symm
        replace cr := cell_fld cr (by decide)
        have cb : wz.cell? ⟨g, x, none⟩ = some (.bool (r.getD x false)) := hrow.cell hxT
        obtain ⟨b, hb⟩ : ∃ b, r.getD x false = b := ⟨_, rfl⟩
        have hsn : s < gs.length := by rw [hgl]; exact HOK.out.1
        obtain ⟨gg, hgg⟩ : ∃ gg, gs[s]? = some gg := ⟨_, List.getElem?_eq_getElem hsn⟩
        obtain ⟨ad2, rfl, hc2⟩ := (OwnL.rd (elG_len T) HG.out.own (by omega)).2.at_ hgg
        have c2 : wz.cell? (ad2.add s) = some (.slice (some ⟨gg, 0, none⟩) T T) := by have := hc2 0 _ rfl; simpa using this
        have hrw := HG.out.row s gg hgg
        have c4 := hrw.cell hxT
        have hf := hrw.frozen x
        have HROW := Lib.hid hrw
        have HGG := Lib.hid hgg
        have HBB := Lib.hid hb
        have hsn' : (s : Int) < (m.nx.length : Int) := by omega
        rw [hb] at cb
        clear hrow hrl hc2 hrw hgg hsr hb
        cases b with
        | true =>
          go_wp2_with fail
          go_roundw
          case rel =>
            refine ⟨x + 1, by omega, by go_num, Lib.hid ((HG.out.store HGG.out true).congr fun s' y _ _ => ?_), Lib.hid (HO.out.far HROW.out (HLT.out s gg HGG.out)), Lib.hid (HB.out.setCell (HG.out.ge s gg HGG.out) _)⟩
            have h1 := HBB.out
            show (if s' = s ∧ y = x then true else _) = (_ || (decide (s = s') && decide (y < x + 1) && r.getD y false))
            by_cases e1 : s' = s
            · subst e1
              by_cases e2 : y = x
              · subst e2; rw [if_pos ⟨rfl, rfl⟩, h1]; simp
              · rw [if_neg (by simp [e2])]
                have : decide (y < x) = decide (y < x + 1) := by rw [decide_eq_decide]; omega
                rw [this]
            · rw [if_neg (by simp [e1]), decide_eq_false (Ne.symm e1)]; simp
          case measure => simp [intOf] <;> omega
        | false =>
          go_wp2_with fail
          go_roundw
          case rel =>
            refine ⟨x + 1, by omega, by go_num, Lib.hid (HG.out.congr fun s' y _ _ => ?_), HO, HB⟩
            have h1 := HBB.out
            show (_ || (decide (s = s') && decide (y < x) && r.getD y false)) = (_ || (decide (s = s') && decide (y < x + 1) && r.getD y false))
            by_cases e2 : y = x
            · subst e2; rw [h1]; simp
            · have : decide (y < x) = decide (y < x + 1) := by rw [decide_eq_decide]; omega
              rw [this]
          case measure => simp [intOf] <;> omega
end Go.Proofs.Ytpcoddbkcelaoaa
