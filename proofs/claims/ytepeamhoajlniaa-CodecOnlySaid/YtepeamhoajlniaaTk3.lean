/- TakeWords of the program. -/
import Derived.Test.YtepeamhoajlniaaTk2
import Derived.Deep.RegionHeld3
import Derived.Deep.AppendLies
import Derived.Deep.RegionLaw
namespace Go.Proofs.Ytepeamhoajlniaa
open Go.RowKit

theorem info32 : (Try.prog.info? 32).map (fun i => (i.zero, i.size, i.bytes)) = some (some (.slice none 0 0), 1, 24) := by kernel_rfl
section
variable {P : Program} {ops : Array Oper} {o : Oper} {a : Act} {K : Act → World → Prop} {Q : Exit → Act → World → Prop} {E : Prop}
/-- a step of a drawn region: append of one row that lies in a box -/
theorem stepM (hgd : o.guard = none) (s x : Operand) (t e1 e2 : TypeId) (ho : o.op = .call { callee := .builtin .append, args := #[s, x], argTypes := #[t, t] })
    (ht : P.underlying t = some (.slice e1)) (hinfo : (P.info? e1).map (fun i => (i.zero, i.size, i.bytes)) = some (some (.slice none 0 0), 1, 24)) (hne : e1 ≠ e2)
    {W : World} {base nb : Nat} {v : Value} {xss : List (List Int)} {B : Option Addr} {m c : Nat} {xs : List Int} (hs : a.eval s = v) (hx : a.eval x = .slice (some ⟨nb, 0, none⟩) 1 1) (hown : OwnM W base e1 e2 v xss) (hl : xs.length = m)
    (hcell : W.cell? ⟨nb, 0, none⟩ = some (.slice B m c)) (hrow : W.ownsRow base e2 1 (.slice B m c) m (xs.map (.int .i64)))
    (hn : xss.length ≤ 1099511627776) (hbase : base ≤ W.heap.size)
    (h : ∀ v' w', OwnM w' base e1 e2 v' (xss ++ [xs]) → (∀ (b : Nat) (w0 : World), b ≤ base → Below b w0 W → Below b w0 w') → base ≤ w'.heap.size → K (a.put o.dst v') w') :
    if Region.wanted o (yielded ops a.tmps) = true then Oper.wp P o a W K Q else E := by
  obtain ⟨i0, hi, hz0, hz1', hz2⟩ := info_parts hinfo
  obtain ⟨ys, h1, h2⟩ := hown
  have hyl : ys.length = xss.length := by have := h1.1; simpa using this
  refine step_append_lies W hgd s x t ho base e1 i0 _ 1 24 ht hi hz0 hz1' hz2 rfl (by decide) v xss.length ys hs h1 ⟨nb, 0, none⟩ 1 1 [.slice B m c] hx rfl ?_ (by intro u hu; simp at hu; subst hu; rfl) (by omega) (by unfold maxLen; omega) (by omega) hbase W.heap.size rfl ?_
  · intro j u hj
    match j, hj with
    | 0, hj =>
      simp at hj
      subst hj
      simpa [Addr.add] using hcell
  intro g cap w' g1 g2 _ _
  refine h _ w' ⟨_, by simpa using g1, fun i hi => ?_⟩ (fun b w0 hB hb => grown_below h1 hbase g2 hB hb) ?_
  · by_cases hix : i < xss.length
    · obtain ⟨C, d, h3, h4⟩ := h2 i hix
      have e : (xss ++ [xs]).getD i [] = xss.getD i [] := by
        rw [List.getD_eq_getElem?_getD, List.getD_eq_getElem?_getD, List.getElem?_append_left hix]
      rw [e]
      refine ⟨C, d, by rw [List.getElem?_append_left (by omega)]; exact h3, ?_⟩
      exact h4.kept g2 (own_ne h4 h1 (Ne.symm hne))
    · have hi' : i = xss.length := by simp at hi; omega
      subst hi'
      have e : (xss ++ [xs]).getD xss.length [] = xs := by
        rw [List.getD_eq_getElem?_getD, List.getElem?_append_right (by omega)]; simp
      rw [e, hl]
      refine ⟨B, c, by rw [List.getElem?_append_right (by omega), hyl]; simp, ?_⟩
      exact hrow.kept g2 (own_ne hrow h1 (Ne.symm hne))
  · have := g2.size; omega
end
section
variable {w w1 : World} {g : Nat} {A : Option Addr} {n c k : Nat}
theorem OwnM.mov {base e1 e2 : Nat} {v : Value} {xss : List (List Int)} (h : OwnM w base e1 e2 v xss) (m : Mov w w1 g A n c k) (hg : g < base) : OwnM w1 base e1 e2 v xss := by
  obtain ⟨ys, h1, h2⟩ := h
  refine ⟨ys, m.own h1 hg, fun i hi => ?_⟩
  obtain ⟨B, d, h3, h4⟩ := h2 i hi
  exact ⟨B, d, h3, m.own h4 hg⟩
theorem OwnM.set {base e1 e2 : Nat} {v : Value} {xss : List (List Int)} (h : OwnM w base e1 e2 v xss) {p : Addr} (hp : p.block < base) (u : Value) : OwnM (w.setCell p u) base e1 e2 v xss := by
  obtain ⟨ys, h1, h2⟩ := h
  refine ⟨ys, own_set h1 hp u, fun i hi => ?_⟩
  obtain ⟨B, d, h3, h4⟩ := h2 i hi
  exact ⟨B, d, h3, own_set h4 hp u⟩
theorem OwnM.drew {base e1 e2 : Nat} {v : Value} {xss : List (List Int)} (h : OwnM w base e1 e2 v xss) : OwnM w.drew base e1 e2 v xss := h
theorem Bx.of_below {b B : Nat} {t : TypeId} {x y z : Value} (h : Bx w b t x y z) (hb : Below B w w1) (hB : b + 3 ≤ B) : Bx w1 b t x y z :=
  ⟨(hb.block _ (by omega)).trans h.b0, (hb.block _ (by omega)).trans h.b1, (hb.block _ (by omega)).trans h.b2⟩
theorem Bx.drew {b : Nat} {t : TypeId} {x y z : Value} (h : Bx w b t x y z) : Bx w.drew b t x y z := ⟨h.b0, h.b1, h.b2⟩
theorem Bx.alloc {b : Nat} {t : TypeId} {x y z : Value} (h : Bx w b t x y z) (hb : b + 3 ≤ w.heap.size) (o : Obj) : Bx (w.alloc o) b t x y z := h.of_below ((Below.refl _ _).alloc (Nat.le_refl _) o) hb
theorem Bx.set0 {b : Nat} {t : TypeId} {x y z : Value} (h : Bx w b t x y z) (u : Value) : Bx (w.setCell ⟨b, 0, none⟩ u) b t u y z :=
  ⟨one_setCell h.b0, (Below.heap_setCell w ⟨b, 0, none⟩ u (b + 1) (by simp)).trans h.b1, (Below.heap_setCell w ⟨b, 0, none⟩ u (b + 2) (by simp)).trans h.b2⟩
end
section
variable (g : Nat) (A : Option Addr) (c k : Nat) (bs : List Nat) (w w0 : World)
theorem list_ok (hs : Src w g A bs.length c k) (h0 : RdB w0 A c bs) (hb0 : Below w0.heap.size w0 w) (hg0 : w0.heap.size ≤ g) (hlt : ∀ x ∈ bs, x < 256) (hl : bs.length ≤ 1000000) (hk : k ≤ bs.length) (ht : (Cod.tkL (bs.drop k)).err = 0) :
    Calls Try.prog 37 #[.pointer (some ⟨g, 0, none⟩)] w fun e w' => ∃ B d, e = .returned (.slice B (Cod.tkL (bs.drop k)).val.length d) ∧ w'.ownsRow w.heap.size 3 1 (.slice B (Cod.tkL (bs.drop k)).val.length d) (Cod.tkL (bs.drop k)).val.length ((Cod.tkL (bs.drop k)).val.map (.int .i64)) ∧ Mov w w' g A bs.length c (k + (Cod.tkL (bs.drop k)).size) := by
  refine (list_p g A c k bs w w0 hs h0 hb0 hg0 hlt hl hk).mono fun e w' hh => ?_
  rcases hh with ⟨_, h⟩ | ⟨h, _⟩
  · exact h
  · exact absurd ht h
theorem list_bad (hs : Src w g A bs.length c k) (h0 : RdB w0 A c bs) (hb0 : Below w0.heap.size w0 w) (hg0 : w0.heap.size ≤ g) (hlt : ∀ x ∈ bs, x < 256) (hl : bs.length ≤ 1000000) (hk : k ≤ bs.length) (ht : (Cod.tkL (bs.drop k)).err ≠ 0) :
    Calls Try.prog 37 #[.pointer (some ⟨g, 0, none⟩)] w fun e w' => e = Pan (Cod.tkL (bs.drop k)).err ∧ ∃ k', Mov w w' g A bs.length c k' := by
  refine (list_p g A c k bs w w0 hs h0 hb0 hg0 hlt hl hk).mono fun e w' hh => ?_
  rcases hh with ⟨h, _⟩ | ⟨_, h⟩
  · exact absurd h ht
  · exact h
end
def TakWP (r : Cod.Got (List (List Int))) (w : World) (e : Ending) (w' : World) : Prop :=
  ∃ B d, e = .returned (.tuple #[.slice B r.val.length d, .int .i64 (r.size : Nat), .int .i64 r.err]) ∧ RdM .i64 w' B r.val ∧ r.val.length ≤ 1000000 ∧ Below w.heap.size w w'
/-- the state at a round's head -/
structure WW (w wr : World) (b : Nat) (A : Option Addr) (n c j : Nat) (lv : Value) (acc : List (List Int)) : Prop where
  bel : Below w.heap.size w wr
  bx : Bx wr b 33 lv (.int .i64 0) (.int .i64 0)
  src : Src wr (b + 1 + 1 + 1) A n c j
  own : OwnM wr (b + 4) 32 3 lv acc
  size : b + 4 ≤ wr.heap.size
theorem rows_snoc {acc : List (List Int)} {tv : List Int} (h : ∀ i, i < acc.length → (acc.getD i []).length ≤ 1000000) (h2 : tv.length ≤ 1000000) : ∀ i, i < (acc ++ [tv]).length → ((acc ++ [tv]).getD i []).length ≤ 1000000 := by
  intro i hi
  by_cases hix : i < acc.length
  · have e : (acc ++ [tv]).getD i [] = acc.getD i [] := by rw [List.getD_eq_getElem?_getD, List.getD_eq_getElem?_getD, List.getElem?_append_left hix]
    rw [e]; exact h i hix
  · have hi' : i = acc.length := by simp at hi; omega
    subst hi'
    have e : (acc ++ [tv]).getD acc.length [] = tv := by rw [List.getD_eq_getElem?_getD, List.getElem?_append_right (by omega)]; simp
    rw [e]; exact h2
theorem Src.alloc {w : World} {g : Nat} {A : Option Addr} {n c k : Nat} (h : Src w g A n c k) (o : Obj) : Src (w.alloc o) g A n c k := h.of_block (heap_alloc_old _ _ (h := h.lt))
theorem Src.setOther {w : World} {g : Nat} {A : Option Addr} {n c k : Nat} (h : Src w g A n c k) {p : Addr} (hp : g ≠ p.block) (u : Value) : Src (w.setCell p u) g A n c k := h.of_block (Below.heap_setCell _ _ _ _ hp)
set_option maxRecDepth 100000 in
set_option maxHeartbeats 4000000 in
theorem takeWords_p (A : Option Addr) (c : Nat) (bs : List Nat) (w : World) (h : RdB w A c bs) (hlt : ∀ x ∈ bs, x < 256) (hl : bs.length ≤ 1000000) :
    Calls Try.prog 18 #[.slice A bs.length c] w (TakWP (Cod.tkW bs) w) := by
  have hm := h.len
  have hle := h.1
  have hlc := h.2.1
  have hmf : ∀ (fn : Fn) (first cap : Array Value) (w : World), (Instr.makeFunc fn first cap).run Try.prog w = .ok (.func fn first cap) w := fun _ _ _ _ => rfl
  by_cases hgood : (Cod.tk bs).err = 0 ∧ 0 ≤ (Cod.tk bs).val
  · obtain ⟨ht, hv⟩ := hgood
    have HC := Lib.hid (fun (g : Nat) (w' : World) (hs : Src w' g A bs.length c 0) (hb : Below w.heap.size w w') => length_ok g A c 0 bs w' hs (h.keep hb) hlt (Nat.zero_le _) (by rw [List.drop_zero]; exact ht) (by rw [List.drop_zero]; exact hv))
    have HL := Lib.hid (fun (j : Nat) (g : Nat) (w' : World) (hs : Src w' g A bs.length c j) (hb : Below w.heap.size w w') (hg : w.heap.size ≤ g) (hj : j ≤ bs.length) => list_ok g A c j bs w' w hs h hb hg hlt hl hj)
    have HLB := Lib.hid (fun (j : Nat) (g : Nat) (w' : World) (hs : Src w' g A bs.length c j) (hb : Below w.heap.size w w') (hg : w.heap.size ≤ g) (hj : j ≤ bs.length) => list_bad g A c j bs w' w hs h hb hg hlt hl hj)
    rw [List.drop_zero] at HC
    have hsz := Cod.tk_size bs ht
    have hrg := Cod.tk_range bs
    have HON := Lib.hid (Cod.lst_on Cod.tkL bs ht hv)
    obtain ⟨R, hR⟩ : ∃ R : Nat, (Cod.tk bs).val = R := ⟨(Cod.tk bs).val.toNat, by omega⟩
    obtain ⟨s0, hs0⟩ : ∃ s0 : Nat, (Cod.tk bs).size = s0 := ⟨_, rfl⟩
    rw [hR, hs0] at HC
    rw [hs0] at hsz
    rw [hR] at hrg
    have HON2 : Hid (Cod.tkW bs = Cod.on Cod.tkL R [] s0 bs) := by
      have := HON.out
      rw [hR, hs0, Int.toNat_natCast] at this
      exact Lib.hid this
    clear hR hs0 HON ht hv h hlt
    obtain ⟨res, hres⟩ : ∃ res, res = Cod.tkW bs := ⟨_, rfl⟩
    rw [← hres] at HON2 ⊢
    clear hres
    go_enter_defers Try.func18, Try.ntmps18
    go_wp2_with fail
    refine (HC.out _ _ ?_ ?_).mono ?_
    · exact src_new3 w A bs.length c _ _
    · exact below_new3 w A bs.length c _ _
    rintro e w1 ⟨rfl, hmv⟩
    have hbx := (bx_new w A bs.length c 33 (.slice none 0 0)).mov hmv (by omega)
    have hbel := hmv.below (below_new3 w A bs.length c _ _) (by omega) (by simp; omega)
    have hsrc := hmv.src
    have hgs := hmv.grown.size
    simp at hgs
    obtain ⟨b, hb⟩ : ∃ b, b = w.heap.size := ⟨_, rfl⟩
    rw [← hb] at hbx hsrc hgs ⊢
    have hbw : w.heap.size ≤ b := by omega
    have HW := Lib.hid (WW.mk hbel hbx hsrc (OwnM.nil w1 (b + 4) 32 3) (by omega))
    rw [Nat.zero_add] at HW
    clear hbel hbx hsrc hgs HC hmv hb
    go_wp2_with fail
    go_loopw [6] (fun n wr => ∃ (r j : Nat) (lv : Value) (acc : List (List Int)), n = .int .i64 r ∧ r ≤ 9223372036854775807 ∧ acc.length ≤ j ∧ j ≤ bs.length ∧ (∀ i, i < acc.length → (acc.getD i []).length ≤ 1000000) ∧ Hid (res = Cod.on Cod.tkL r acc j bs) ∧ Hid (WW w wr b A bs.length c j lv acc)) (fun n _ => (intOf n).toNat)
    case atStart => exact ⟨R, s0, .slice none 0 0, [], rfl, by omega, by simp, by omega, by simp, HON2, HW⟩
    case round =>
      clear HON2 HW
      obtain ⟨r, j, lv, acc, rfl, hr63, hacc, hkj, hrows, HE, HW⟩ := hrel
      have HRS := Lib.hid hrows
      clear hrows
      by_cases hr0 : 0 < r
      · obtain ⟨r, rfl⟩ : ∃ q, r = q + 1 := ⟨r - 1, by omega⟩
        have hri : ((r + 1 : Nat) : Int) = (r : Int) + 1 := by omega
        rw [hri]
        clear hri
        have hc0 := HW.out.bx.c0
        have hf0 := HW.out.bx.f0
        by_cases ht : (Cod.tkL (bs.drop j)).err = 0
        · have HC := Lib.hid (fun (wx : World) (hs : Src wx (b + 1 + 1 + 1) A bs.length c j) (hb : Below w.heap.size w wx) => HL.out j _ wx hs hb (by omega) hkj ht)
          have hE2 := Cod.on_ok Cod.tkL r acc j bs ht
          have hsz := Cod.tkL_size _ ht
          rw [List.length_drop] at hsz
          obtain ⟨t, hT⟩ : ∃ t, t = Cod.tkL (bs.drop j) := ⟨_, rfl⟩
          rw [← hT] at HC hE2 hsz
          obtain ⟨tv, ts, te⟩ := t
          simp only at HC hE2 hsz
          have HE2 := Lib.hid hE2
          clear hE2 hT ht
          go_wp2_with fail
          refine wp_region_noPanic ?_
          refine wp_region_any (by kernel_rfl) ?_
          change wpAny _ _ _ _ _ _ _ (World.drew _)
          refine wpAny_ready (rs := [0, 1]) (by kernel_rfl) (by simp) ?_
          refine AllReady.cons rfl (fun K hK => ?_) (AllReady.cons rfl (fun K hK => ?_) AllReady.nil)
          · skip
            go_simp
            refine hK _ _ ?_
            clear hK K
            refine wpAny_ready (rs := [1]) (by kernel_rfl) (by simp) ?_
            refine AllReady.cons rfl (fun K hK => ?_) AllReady.nil
            go_simp
            refine hK _ _ ?_
            clear hK K
            refine wpAny_ready (rs := [2]) (by kernel_rfl) (by simp) ?_
            refine AllReady.cons rfl (fun K hK => ?_) AllReady.nil
            go_simp
            refine (HC.out wr.drew HW.out.src HW.out.bel.drew).mono ?_
            rintro e w2 ⟨B2, d2, rfl, ho, hmv⟩
            refine hK _ _ ?_
            clear hK K
            have ho2 := own_mono ho (show b + 4 ≤ _ from HW.out.size)
            have hbx2 := HW.out.bx.drew.mov hmv (by omega)
            have hown2 := HW.out.own.drew.mov hmv (by omega)
            have hbel2 := hmv.below HW.out.bel.drew (by omega) HW.out.bel.size
            have hsz2 : wr.heap.size ≤ w2.heap.size := hmv.grown.size
            have hsz3 := HW.out.size
            have k1 := hbx2.c0
            have k3 : ¬ b = w2.heap.size := by omega
            have HOW := Lib.hid hown2
            have HO2 := Lib.hid ho2
            have HX2 := Lib.hid hbx2
            have HS2 := Lib.hid hmv.src
            have HB2 := Lib.hid hbel2
            have k6 : (w2.alloc (.cells #[.slice B2 tv.length d2] 32)).cell? ⟨b, 0, none⟩ = some lv := (hbx2.alloc (by omega) _).c0
            have HCE := Lib.hid (show (w2.alloc (.cells #[.slice B2 tv.length d2] 32)).cell? ⟨w2.heap.size, 0, none⟩ = some (.slice B2 tv.length d2) by simp)
            clear hbx2 hown2 hbel2 ho2 ho hmv hc0
            refine wpAny_ready (rs := [3]) (by kernel_rfl) (by simp) ?_
            refine AllReady.cons rfl (fun K hK => ?_) AllReady.nil
            go_simp
            refine hK _ _ ?_
            clear hK K
            refine wpAny_ready (rs := [4]) (by kernel_rfl) (by simp) ?_
            refine AllReady.cons rfl (fun K hK => ?_) AllReady.nil
            refine stepM (by rfl) (.tmp 17) (.tmp 20) 33 32 3 (by rfl) Try.underlying33 info32 (by decide) (by rfl) (by rfl) (HOW.out.keep ((Below.refl _ _).alloc (Nat.le_refl _) _)) rfl HCE.out (own_keep HO2.out ((Below.refl _ _).alloc (Nat.le_refl _) _)) (by omega) (by simp; omega) ?_
            intro v4 w4 hown4 hb4 hsz4
            refine hK _ _ ?_
            clear hK K
            obtain ⟨E4, g4, rfl⟩ := hown4.slice
            have hbx4 := (HX2.out.alloc (by omega) (.cells #[.slice B2 tv.length d2] 32)).of_below (hb4 (b + 3) _ (by omega) (Below.refl _ _)) (by omega)
            have k4 := hbx4.c0
            have k5 := hbx4.f0
            refine wpAny_ready (rs := [5]) (by kernel_rfl) (by simp) ?_
            refine AllReady.cons rfl (fun K hK => ?_) AllReady.nil
            go_simp
            refine hK _ _ ?_
            clear hK K
            refine wpAny_done (by kernel_rfl) ?_ _
            refine NoPanic.normal ?_
            have HW4 : Hid (WW w (w4.setCell ⟨b, 0, none⟩ (.slice E4 (acc ++ [tv]).length g4)) b A bs.length c (j + ts) (.slice E4 (acc ++ [tv]).length g4) (acc ++ [tv])) :=
              Lib.hid ⟨(hb4 _ _ (by omega) (HB2.out.alloc (by omega) _)).setCell hbw _, hbx4.set0 _, (((HS2.out.alloc _).of_block ((hb4 (b + 4) _ (by omega) (Below.refl _ _)).block _ (by omega))).setOther (by simp; omega) _), hown4.set (by simp) _, by simp [World.setCell]; omega⟩
            clear hbx4 hown4 hb4
            go_wp2_with fail
            go_roundw
            case rel =>
              rw [List.length_append] at HW4
              exact ⟨r, j + ts, _, acc ++ [tv], by go_num, by omega, by simp; omega, by omega, rows_snoc HRS.out (by omega), by rw [← HE2.out]; exact HE, HW4⟩
            case measure => simp [intOf]
          · skip
            go_simp
            refine hK _ _ ?_
            clear hK K
            refine wpAny_ready (rs := [0, 2]) (by kernel_rfl) (by simp) ?_
            refine AllReady.cons rfl (fun K hK => ?_) (AllReady.cons rfl (fun K hK => ?_) AllReady.nil)
            · skip
              go_simp
              refine hK _ _ ?_
              clear hK K
              refine wpAny_ready (rs := [2]) (by kernel_rfl) (by simp) ?_
              refine AllReady.cons rfl (fun K hK => ?_) AllReady.nil
              go_simp
              refine (HC.out wr.drew HW.out.src HW.out.bel.drew).mono ?_
              rintro e w2 ⟨B2, d2, rfl, ho, hmv⟩
              refine hK _ _ ?_
              clear hK K
              have ho2 := own_mono ho (show b + 4 ≤ _ from HW.out.size)
              have hbx2 := HW.out.bx.drew.mov hmv (by omega)
              have hown2 := HW.out.own.drew.mov hmv (by omega)
              have hbel2 := hmv.below HW.out.bel.drew (by omega) HW.out.bel.size
              have hsz2 : wr.heap.size ≤ w2.heap.size := hmv.grown.size
              have hsz3 := HW.out.size
              have k1 := hbx2.c0
              have k3 : ¬ b = w2.heap.size := by omega
              have HOW := Lib.hid hown2
              have HO2 := Lib.hid ho2
              have HX2 := Lib.hid hbx2
              have HS2 := Lib.hid hmv.src
              have HB2 := Lib.hid hbel2
              have k6 : (w2.alloc (.cells #[.slice B2 tv.length d2] 32)).cell? ⟨b, 0, none⟩ = some lv := (hbx2.alloc (by omega) _).c0
              have HCE := Lib.hid (show (w2.alloc (.cells #[.slice B2 tv.length d2] 32)).cell? ⟨w2.heap.size, 0, none⟩ = some (.slice B2 tv.length d2) by simp)
              clear hbx2 hown2 hbel2 ho2 ho hmv hc0
              refine wpAny_ready (rs := [3]) (by kernel_rfl) (by simp) ?_
              refine AllReady.cons rfl (fun K hK => ?_) AllReady.nil
              go_simp
              refine hK _ _ ?_
              clear hK K
              refine wpAny_ready (rs := [4]) (by kernel_rfl) (by simp) ?_
              refine AllReady.cons rfl (fun K hK => ?_) AllReady.nil
              refine stepM (by rfl) (.tmp 17) (.tmp 20) 33 32 3 (by rfl) Try.underlying33 info32 (by decide) (by rfl) (by rfl) (HOW.out.keep ((Below.refl _ _).alloc (Nat.le_refl _) _)) rfl HCE.out (own_keep HO2.out ((Below.refl _ _).alloc (Nat.le_refl _) _)) (by omega) (by simp; omega) ?_
              intro v4 w4 hown4 hb4 hsz4
              refine hK _ _ ?_
              clear hK K
              obtain ⟨E4, g4, rfl⟩ := hown4.slice
              have hbx4 := (HX2.out.alloc (by omega) (.cells #[.slice B2 tv.length d2] 32)).of_below (hb4 (b + 3) _ (by omega) (Below.refl _ _)) (by omega)
              have k4 := hbx4.c0
              have k5 := hbx4.f0
              refine wpAny_ready (rs := [5]) (by kernel_rfl) (by simp) ?_
              refine AllReady.cons rfl (fun K hK => ?_) AllReady.nil
              go_simp
              refine hK _ _ ?_
              clear hK K
              refine wpAny_done (by kernel_rfl) ?_ _
              refine NoPanic.normal ?_
              have HW4 : Hid (WW w (w4.setCell ⟨b, 0, none⟩ (.slice E4 (acc ++ [tv]).length g4)) b A bs.length c (j + ts) (.slice E4 (acc ++ [tv]).length g4) (acc ++ [tv])) :=
                Lib.hid ⟨(hb4 _ _ (by omega) (HB2.out.alloc (by omega) _)).setCell hbw _, hbx4.set0 _, (((HS2.out.alloc _).of_block ((hb4 (b + 4) _ (by omega) (Below.refl _ _)).block _ (by omega))).setOther (by simp; omega) _), hown4.set (by simp) _, by simp [World.setCell]; omega⟩
              clear hbx4 hown4 hb4
              go_wp2_with fail
              go_roundw
              case rel =>
                rw [List.length_append] at HW4
                exact ⟨r, j + ts, _, acc ++ [tv], by go_num, by omega, by simp; omega, by omega, rows_snoc HRS.out (by omega), by rw [← HE2.out]; exact HE, HW4⟩
              case measure => simp [intOf]
            · skip
              go_simp
              refine (HC.out wr.drew HW.out.src HW.out.bel.drew).mono ?_
              rintro e w2 ⟨B2, d2, rfl, ho, hmv⟩
              refine hK _ _ ?_
              clear hK K
              have ho2 := own_mono ho (show b + 4 ≤ _ from HW.out.size)
              have hbx2 := HW.out.bx.drew.mov hmv (by omega)
              have hown2 := HW.out.own.drew.mov hmv (by omega)
              have hbel2 := hmv.below HW.out.bel.drew (by omega) HW.out.bel.size
              have hsz2 : wr.heap.size ≤ w2.heap.size := hmv.grown.size
              have hsz3 := HW.out.size
              have k1 := hbx2.c0
              have k3 : ¬ b = w2.heap.size := by omega
              have HOW := Lib.hid hown2
              have HO2 := Lib.hid ho2
              have HX2 := Lib.hid hbx2
              have HS2 := Lib.hid hmv.src
              have HB2 := Lib.hid hbel2
              have k6 : (w2.alloc (.cells #[.slice B2 tv.length d2] 32)).cell? ⟨b, 0, none⟩ = some lv := (hbx2.alloc (by omega) _).c0
              have HCE := Lib.hid (show (w2.alloc (.cells #[.slice B2 tv.length d2] 32)).cell? ⟨w2.heap.size, 0, none⟩ = some (.slice B2 tv.length d2) by simp)
              clear hbx2 hown2 hbel2 ho2 ho hmv hc0
              refine wpAny_ready (rs := [0, 3]) (by kernel_rfl) (by simp) ?_
              refine AllReady.cons rfl (fun K hK => ?_) (AllReady.cons rfl (fun K hK => ?_) AllReady.nil)
              · skip
                go_simp
                refine hK _ _ ?_
                clear hK K
                refine wpAny_ready (rs := [3]) (by kernel_rfl) (by simp) ?_
                refine AllReady.cons rfl (fun K hK => ?_) AllReady.nil
                go_simp
                refine hK _ _ ?_
                clear hK K
                refine wpAny_ready (rs := [4]) (by kernel_rfl) (by simp) ?_
                refine AllReady.cons rfl (fun K hK => ?_) AllReady.nil
                refine stepM (by rfl) (.tmp 17) (.tmp 20) 33 32 3 (by rfl) Try.underlying33 info32 (by decide) (by rfl) (by rfl) (HOW.out.keep ((Below.refl _ _).alloc (Nat.le_refl _) _)) rfl HCE.out (own_keep HO2.out ((Below.refl _ _).alloc (Nat.le_refl _) _)) (by omega) (by simp; omega) ?_
                intro v4 w4 hown4 hb4 hsz4
                refine hK _ _ ?_
                clear hK K
                obtain ⟨E4, g4, rfl⟩ := hown4.slice
                have hbx4 := (HX2.out.alloc (by omega) (.cells #[.slice B2 tv.length d2] 32)).of_below (hb4 (b + 3) _ (by omega) (Below.refl _ _)) (by omega)
                have k4 := hbx4.c0
                have k5 := hbx4.f0
                refine wpAny_ready (rs := [5]) (by kernel_rfl) (by simp) ?_
                refine AllReady.cons rfl (fun K hK => ?_) AllReady.nil
                go_simp
                refine hK _ _ ?_
                clear hK K
                refine wpAny_done (by kernel_rfl) ?_ _
                refine NoPanic.normal ?_
                have HW4 : Hid (WW w (w4.setCell ⟨b, 0, none⟩ (.slice E4 (acc ++ [tv]).length g4)) b A bs.length c (j + ts) (.slice E4 (acc ++ [tv]).length g4) (acc ++ [tv])) :=
                  Lib.hid ⟨(hb4 _ _ (by omega) (HB2.out.alloc (by omega) _)).setCell hbw _, hbx4.set0 _, (((HS2.out.alloc _).of_block ((hb4 (b + 4) _ (by omega) (Below.refl _ _)).block _ (by omega))).setOther (by simp; omega) _), hown4.set (by simp) _, by simp [World.setCell]; omega⟩
                clear hbx4 hown4 hb4
                go_wp2_with fail
                go_roundw
                case rel =>
                  rw [List.length_append] at HW4
                  exact ⟨r, j + ts, _, acc ++ [tv], by go_num, by omega, by simp; omega, by omega, rows_snoc HRS.out (by omega), by rw [← HE2.out]; exact HE, HW4⟩
                case measure => simp [intOf]
              · skip
                go_simp
                refine hK _ _ ?_
                clear hK K
                refine wpAny_ready (rs := [0]) (by kernel_rfl) (by simp) ?_
                refine AllReady.cons rfl (fun K hK => ?_) AllReady.nil
                go_simp
                refine hK _ _ ?_
                clear hK K
                refine wpAny_ready (rs := [4]) (by kernel_rfl) (by simp) ?_
                refine AllReady.cons rfl (fun K hK => ?_) AllReady.nil
                refine stepM (by rfl) (.tmp 17) (.tmp 20) 33 32 3 (by rfl) Try.underlying33 info32 (by decide) (by rfl) (by rfl) (HOW.out.keep ((Below.refl _ _).alloc (Nat.le_refl _) _)) rfl HCE.out (own_keep HO2.out ((Below.refl _ _).alloc (Nat.le_refl _) _)) (by omega) (by simp; omega) ?_
                intro v4 w4 hown4 hb4 hsz4
                refine hK _ _ ?_
                clear hK K
                obtain ⟨E4, g4, rfl⟩ := hown4.slice
                have hbx4 := (HX2.out.alloc (by omega) (.cells #[.slice B2 tv.length d2] 32)).of_below (hb4 (b + 3) _ (by omega) (Below.refl _ _)) (by omega)
                have k4 := hbx4.c0
                have k5 := hbx4.f0
                refine wpAny_ready (rs := [5]) (by kernel_rfl) (by simp) ?_
                refine AllReady.cons rfl (fun K hK => ?_) AllReady.nil
                go_simp
                refine hK _ _ ?_
                clear hK K
                refine wpAny_done (by kernel_rfl) ?_ _
                refine NoPanic.normal ?_
                have HW4 : Hid (WW w (w4.setCell ⟨b, 0, none⟩ (.slice E4 (acc ++ [tv]).length g4)) b A bs.length c (j + ts) (.slice E4 (acc ++ [tv]).length g4) (acc ++ [tv])) :=
                  Lib.hid ⟨(hb4 _ _ (by omega) (HB2.out.alloc (by omega) _)).setCell hbw _, hbx4.set0 _, (((HS2.out.alloc _).of_block ((hb4 (b + 4) _ (by omega) (Below.refl _ _)).block _ (by omega))).setOther (by simp; omega) _), hown4.set (by simp) _, by simp [World.setCell]; omega⟩
                clear hbx4 hown4 hb4
                go_wp2_with fail
                go_roundw
                case rel =>
                  rw [List.length_append] at HW4
                  exact ⟨r, j + ts, _, acc ++ [tv], by go_num, by omega, by simp; omega, by omega, rows_snoc HRS.out (by omega), by rw [← HE2.out]; exact HE, HW4⟩
                case measure => simp [intOf]
        · have HC := Lib.hid (fun (wx : World) (hs : Src wx (b + 1 + 1 + 1) A bs.length c j) (hb : Below w.heap.size w wx) => HLB.out j _ wx hs hb (by omega) hkj ht)
          have hE2 := Cod.on_bad Cod.tkL r acc j bs ht
          have HE2 := Lib.hid hE2
          have HT := Lib.hid ht
          clear hE2 ht
          go_wp2_with fail
          refine wp_region_any (by kernel_rfl) ?_
          change wpAny _ _ _ _ _ _ _ (World.drew _)
          refine wpAny_ready (rs := [0, 1]) (by kernel_rfl) (by simp) ?_
          refine AllReady.cons rfl (fun K hK => ?_) (AllReady.cons rfl (fun K hK => ?_) AllReady.nil)
          · go_simp
            refine hK _ _ ?_
            clear hK K
            refine wpAny_ready (rs := [1]) (by kernel_rfl) (by simp) ?_
            refine AllReady.cons rfl (fun K hK => ?_) AllReady.nil
            go_simp
            refine hK _ _ ?_
            clear hK K
            refine wpAny_ready (rs := [2]) (by kernel_rfl) (by simp) ?_
            refine AllReady.cons rfl (fun K hK => ?_) AllReady.nil
            go_simp
            refine (HC.out wr.drew HW.out.src HW.out.bel.drew).mono ?_
            rintro e w2 ⟨rfl, k', hmv⟩
            go_wp2_with fail
            change Leaves Try.prog Try.f18 _ _ _ _ _
            have hbx2 := HW.out.bx.drew.mov hmv (by omega)
            have hbel2 := hmv.below HW.out.bel.drew (by omega) HW.out.bel.size
            refine leaves_cons (f := 38) (args := #[.pointer (some ⟨b, 0, none⟩), .pointer (some ⟨b + 1, 0, none⟩), .pointer (some ⟨b + 1 + 1, 0, none⟩)]) ?_ ?_ ?_
            · simp
            · simp [go_sem]
            refine (catch38 b _ _ _ _ [] _ hbx2.c0 hbx2.c1 hbx2.c2 hbx2.f0 hbx2.f1 hbx2.f2).mono ?_
            rintro e u' w'' ⟨rfl, rfl, rfl⟩
            have hc0 := hbx2.c0
            have hc1 := hbx2.c1
            have hc2 := hbx2.c2
            simp [Leaves, settle, results, Try.results18, go_sem, hc0, hc1, hc2]
            have hE := HE.out
            rw [HE2.out] at hE
            subst hE
            exact ⟨none, 0, rfl, RdM.nil, by simp, ((hbel2.setCell hbw _).setCell (by simp; omega) _).setCell (by simp; omega) _⟩
          · go_simp
            refine hK _ _ ?_
            clear hK K
            refine wpAny_ready (rs := [0, 2]) (by kernel_rfl) (by simp) ?_
            refine AllReady.cons rfl (fun K hK => ?_) (AllReady.cons rfl (fun K hK => ?_) AllReady.nil)
            · go_simp
              refine hK _ _ ?_
              clear hK K
              refine wpAny_ready (rs := [2]) (by kernel_rfl) (by simp) ?_
              refine AllReady.cons rfl (fun K hK => ?_) AllReady.nil
              go_simp
              refine (HC.out wr.drew HW.out.src HW.out.bel.drew).mono ?_
              rintro e w2 ⟨rfl, k', hmv⟩
              go_wp2_with fail
              change Leaves Try.prog Try.f18 _ _ _ _ _
              have hbx2 := HW.out.bx.drew.mov hmv (by omega)
              have hbel2 := hmv.below HW.out.bel.drew (by omega) HW.out.bel.size
              refine leaves_cons (f := 38) (args := #[.pointer (some ⟨b, 0, none⟩), .pointer (some ⟨b + 1, 0, none⟩), .pointer (some ⟨b + 1 + 1, 0, none⟩)]) ?_ ?_ ?_
              · simp
              · simp [go_sem]
              refine (catch38 b _ _ _ _ [] _ hbx2.c0 hbx2.c1 hbx2.c2 hbx2.f0 hbx2.f1 hbx2.f2).mono ?_
              rintro e u' w'' ⟨rfl, rfl, rfl⟩
              have hc0 := hbx2.c0
              have hc1 := hbx2.c1
              have hc2 := hbx2.c2
              simp [Leaves, settle, results, Try.results18, go_sem, hc0, hc1, hc2]
              have hE := HE.out
              rw [HE2.out] at hE
              subst hE
              exact ⟨none, 0, rfl, RdM.nil, by simp, ((hbel2.setCell hbw _).setCell (by simp; omega) _).setCell (by simp; omega) _⟩
            · go_simp
              refine (HC.out wr.drew HW.out.src HW.out.bel.drew).mono ?_
              rintro e w2 ⟨rfl, k', hmv⟩
              go_wp2_with fail
              change Leaves Try.prog Try.f18 _ _ _ _ _
              have hbx2 := HW.out.bx.drew.mov hmv (by omega)
              have hbel2 := hmv.below HW.out.bel.drew (by omega) HW.out.bel.size
              refine leaves_cons (f := 38) (args := #[.pointer (some ⟨b, 0, none⟩), .pointer (some ⟨b + 1, 0, none⟩), .pointer (some ⟨b + 1 + 1, 0, none⟩)]) ?_ ?_ ?_
              · simp
              · simp [go_sem]
              refine (catch38 b _ _ _ _ [] _ hbx2.c0 hbx2.c1 hbx2.c2 hbx2.f0 hbx2.f1 hbx2.f2).mono ?_
              rintro e u' w'' ⟨rfl, rfl, rfl⟩
              have hc0 := hbx2.c0
              have hc1 := hbx2.c1
              have hc2 := hbx2.c2
              simp [Leaves, settle, results, Try.results18, go_sem, hc0, hc1, hc2]
              have hE := HE.out
              rw [HE2.out] at hE
              subst hE
              exact ⟨none, 0, rfl, RdM.nil, by simp, ((hbel2.setCell hbw _).setCell (by simp; omega) _).setCell (by simp; omega) _⟩
      · obtain rfl : r = 0 := by omega
        have hE := HE.out
        rw [Cod.on_zero] at hE
        subst hE
        have c0 := HW.out.bx.c0
        have c1 := HW.out.bx.c1
        have c2 := HW.out.bx.c2
        have f0 := HW.out.bx.f0
        have f1 := HW.out.bx.f1
        have f2 := HW.out.bx.f2
        have s1 := HW.out.src.c1
        obtain ⟨B, d, rfl⟩ := HW.out.own.slice
        obtain ⟨N, hNN⟩ : ∃ N, N = acc.length := ⟨_, rfl⟩
        have HN := Lib.hid hNN
        rw [← hNN] at HW c0 hacc
        clear hNN HL HLB
        go_wp2_with fail
        go_region
        go_wp2_with fail
        change Leaves Try.prog Try.f18 _ _ _ _ _
        refine leaves_cons (f := 38) (args := #[.pointer (some ⟨b, 0, none⟩), .pointer (some ⟨b + 1, 0, none⟩), .pointer (some ⟨b + 1 + 1, 0, none⟩)]) ?_ ?_ ?_
        · simp
        · simp [go_sem]
        refine (idle38 b _).mono ?_
        rintro e u' w'' ⟨rfl, rfl, rfl⟩
        simp [Leaves, settle, results, Try.results18, go_sem, c0, c1, c2]
        have hN2 := HN.out
        subst hN2
        have hw := (((HW.out.own.set (p := ⟨b, 0, none⟩) (by simp) (.slice B acc.length d)).set (p := ⟨b + 1, 0, none⟩) (by simp) (.int .i64 (j : Int))).set (p := ⟨b + 1 + 1, 0, none⟩) (by simp) (.int .i64 0)).drew
        have hl2 : acc.length ≤ 1000000 := by omega
        have hr2 : ∀ i, i < acc.length → (acc.getD i []).length ≤ 1152921504606846976 := fun i hi => Nat.le_trans (HRS.out i hi) (by omega)
        exact ⟨B, d, rfl, OwnM.rd (c := d) (xss := acc) hw (by omega) hr2, by show acc.length ≤ 1000000; omega, (((HW.out.bel.setCell hbw _).setCell (by simp; omega) _).setCell (by simp; omega) _).drew⟩
  · have hbad : (Cod.tkW bs).err ≠ 0 ∧ ∀ (g : Nat) (w' : World), Src w' g A bs.length c 0 → Below w.heap.size w w' → Calls Try.prog 39 #[.pointer (some ⟨g, 0, none⟩)] w' fun e w'' => e = Pan (Cod.tkW bs).err ∧ ∃ k', Mov w' w'' g A bs.length c k' := by
      by_cases ht : (Cod.tk bs).err = 0
      · have hv : (Cod.tk bs).val < 0 := by
          rcases Int.lt_or_le (Cod.tk bs).val 0 with h1 | h1
          · exact h1
          · exact absurd ⟨ht, h1⟩ hgood
        have he : (Cod.tkW bs).err = 5 := Cod.lst_neg Cod.tkL bs ht hv
        refine ⟨by rw [he]; decide, fun g w' hs hb => ?_⟩
        rw [he]
        exact (length_neg g A c 0 bs w' hs (h.keep hb) hlt (Nat.zero_le _) (by rw [List.drop_zero]; exact ht) (by rw [List.drop_zero]; exact hv)).mono fun e w'' ⟨h1, h2⟩ => ⟨h1, _, h2⟩
      · have he : (Cod.tkW bs).err = (Cod.tk bs).err := Cod.lst_tk_bad Cod.tkL bs ht
        refine ⟨by rw [he]; exact ht, fun g w' hs hb => ?_⟩
        have := length_bad g A c 0 bs w' hs (h.keep hb) (Nat.zero_le _) (by rw [List.drop_zero]; exact ht)
        rw [List.drop_zero] at this
        rw [he]
        exact this.mono fun e w'' ⟨h1, h2⟩ => ⟨h1, _, h2⟩
    obtain ⟨hne, hC⟩ := hbad
    have HC := Lib.hid hC
    have HT := Lib.hid (Cod.lst_bad Cod.tkL bs hne)
    have HT2 : Hid ((Cod.tkW bs).val = [] ∧ (Cod.tkW bs).size = 0) := HT
    obtain ⟨t, hT⟩ : ∃ t, t = Cod.tkW bs := ⟨_, rfl⟩
    rw [← hT] at HC HT2 ⊢
    obtain ⟨tv, ts, te⟩ := t
    simp only at HC HT2
    clear hne hC h hlt hT hgood HT
    go_enter_defers Try.func18, Try.ntmps18
    go_wp2_with fail
    refine (HC.out _ _ ?_ ?_).mono ?_
    · exact src_new3 w A bs.length c _ _
    · exact below_new3 w A bs.length c _ _
    rintro e w' ⟨rfl, k', hmv⟩
    have hbx := (bx_new w A bs.length c 33 (.slice none 0 0)).mov hmv (by omega)
    have hbel := hmv.below (below_new3 w A bs.length c _ _) (by omega) (by simp; omega)
    obtain ⟨b, hb⟩ : ∃ b, b = w.heap.size := ⟨_, rfl⟩
    rw [← hb] at hbx ⊢
    have HBE := Lib.hid hbel
    have hbw : w.heap.size ≤ b := by omega
    have c0 := hbx.c0
    have c1 := hbx.c1
    have c2 := hbx.c2
    have f0 := hbx.f0
    have f1 := hbx.f1
    have f2 := hbx.f2
    clear hbx hbel hmv HC
    have HBB := Lib.hid hb
    clear hb
    go_wp2_with fail
    change Leaves Try.prog Try.f18 _ _ _ _ _
    refine leaves_cons (f := 38) (args := #[.pointer (some ⟨b, 0, none⟩), .pointer (some ⟨b + 1, 0, none⟩), .pointer (some ⟨b + 1 + 1, 0, none⟩)]) ?_ ?_ ?_
    · simp
    · simp [go_sem]
    refine (catch38 b te _ _ _ [] _ c0 c1 c2 f0 f1 f2).mono ?_
    rintro e u' w'' ⟨rfl, rfl, rfl⟩
    simp [Leaves, settle, results, Try.results18, go_sem, c0, c1, c2]
    obtain ⟨h1, h2⟩ := HT2.out
    subst h1 h2
    exact ⟨none, 0, rfl, RdM.nil, by simp, ((HBE.out.setCell hbw _).setCell (by simp; omega) _).setCell (by simp; omega) _⟩
end Go.Proofs.Ytepeamhoajlniaa
