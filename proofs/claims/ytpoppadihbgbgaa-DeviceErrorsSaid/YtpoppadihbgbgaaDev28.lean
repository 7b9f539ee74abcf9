/- Machines: Outs, From, Run of the reference; made of the law. -/
import Derived.Test.YtpoppadihbgbgaaDev23
import Derived.StillTailTactics
import Derived.Deep.AppendLies
import Derived.BigQuiet
namespace Go.Proofs.Ytpoppadihbgbgaa
open Go.RowKit

def outsL (nx out : List (List Int)) : Int → List Int → List Int
  | _, [] => []
  | s, a :: w => (out.getD s.toNat []).getD a.toNat 0 :: outsL nx out ((nx.getD s.toNat []).getD a.toNat 0) w
def endL (nx : List (List Int)) : Int → List Int → Int
  | s, [] => s
  | s, a :: w => endL nx ((nx.getD s.toNat []).getD a.toNat 0) w
theorem outsL_len (nx out : List (List Int)) : ∀ (ws : List Int) (s : Int), (outsL nx out s ws).length = ws.length
  | [], _ => rfl
  | _ :: w, s => by rw [outsL, List.length_cons, List.length_cons, outsL_len nx out w]
theorem outsL_at {nx out : List (List Int)} {s : Int} {ws : List Int} {j : Nat} (h : j < ws.length) : outsL nx out s (ws.drop j) = (out.getD s.toNat []).getD (ws.getD j 0).toNat 0 :: outsL nx out ((nx.getD s.toNat []).getD (ws.getD j 0).toNat 0) (ws.drop (j + 1)) := by
  rw [drop_at h, outsL]
theorem endL_at {nx : List (List Int)} {s : Int} {ws : List Int} {j : Nat} (h : j < ws.length) : endL nx s (ws.drop j) = endL nx ((nx.getD s.toNat []).getD (ws.getD j 0).toNat 0) (ws.drop (j + 1)) := by
  rw [drop_at h, endL]
section
variable {P : Program} {ops : Array Oper} {o : Oper} {a : Act} {K : Act → World → Prop} {Q : Exit → Act → World → Prop} {E : Prop}
/-- a step of a drawn region: append of one number that lies in a box -/
theorem step1 (hgd : o.guard = none) (s x : Operand) (t e : TypeId) (ho : o.op = .call { callee := .builtin .append, args := #[s, x], argTypes := #[t, t] })
    (ht : P.underlying t = some (.slice e)) (hinfo : (P.info? e).map (fun i => (i.zero, i.size, i.bytes)) = some (some (.int .i64 0), 1, 8))
    {W : World} {base nb : Nat} {v : Value} {n : Nat} {ys : List Value} {y : Value} (hs : a.eval s = v) (hx : a.eval x = .slice (some ⟨nb, 0, none⟩) 1 1) (hown : W.ownsRow base e 1 v n ys) (hy : y.oneCell' = true)
    (hcell : W.cell? ⟨nb, 0, none⟩ = some y) (hn : n ≤ 1099511627776) (hbase : base ≤ W.heap.size)
    (h : ∀ v' w', w'.ownsRow base e 1 v' (n + 1) (ys ++ [y]) → (∀ (b : Nat) (w0 : World), b ≤ base → Below b w0 W → Below b w0 w') → base ≤ w'.heap.size → K (a.put o.dst v') w') :
    if Region.wanted o (yielded ops a.tmps) = true then Oper.wp P o a W K Q else E := by
  obtain ⟨i0, hi, hz0, hz1', hz2⟩ := info_parts hinfo
  refine step_append_lies W hgd s x t ho base e i0 _ 1 8 ht hi hz0 hz1' hz2 rfl (by decide) v n ys hs hown ⟨nb, 0, none⟩ 1 1 [y] hx rfl ?_ (by intro u hu; simp at hu; subst hu; exact hy) (by omega) (by unfold maxLen; omega) (by omega) hbase W.heap.size rfl ?_
  · intro j u hj
    match j, hj with
    | 0, hj =>
      simp at hj
      subst hj
      simpa [Addr.add] using hcell
  intro g cap w' g1 g2 _ _
  exact h _ w' (by simpa using g1) (fun b w0 hB hb => grown_below hown hbase g2 hB hb) (by have := g2.size; omega)
end
/-- what holds in the loop of Outs -/
structure OI (w0 wr : World) (nx out : List (List Int)) (s0 s : Int) (ws acc : List Int) (G : Option Addr) (g : Nat) : Prop where
  o : acc ++ outsL nx out s (ws.drop acc.length) = outsL nx out s0 ws
  e : endL nx s (ws.drop acc.length) = endL nx s0 ws
  s1 : 0 ≤ s
  s2 : s < nx.length
  own : wr.ownsRow w0.heap.size 3 1 (.slice G acc.length g) acc.length (acc.map (.int .i64))
  bel : Below w0.heap.size w0 wr
def OutsP (nx out : List (List Int)) (s : Int) (ws : List Int) (w : World) (r : Ending) (w' : World) : Prop := (∃ G g, r = .returned (.tuple #[.slice G (outsL nx out s ws).length g, .int .i64 (endL nx s ws)]) ∧ Rd w' G (outsL nx out s ws)) ∧ Below w.heap.size w w'
set_option maxRecDepth 100000 in
set_option maxHeartbeats 4000000 in
theorem outs_r (k S : Nat) (s : Int) (nx out : List (List Int)) (ws : List Int) (A B F : Option Addr) (c d f : Nat) (w : World) (ha : RdM .i64 w A nx) (hb : RdM .i64 w B out) (hw : Rd w F ws) (ok : Mea.Ok k S nx out) (h1 : 0 ≤ s) (h2 : s < nx.length) (hws : ∀ i, i < ws.length → 0 ≤ ws.getD i 0 ∧ ws.getD i 0 < k) (hl : ws.length ≤ 1024) :
    Calls Try.prog 46 #[.agg #[.int .i64 (k : Int), .int .i64 (S : Int), .slice A nx.length c, .slice B out.length d], .int .i64 s, .slice F ws.length f] w (OutsP nx out s ws w) := by
  have mx := ha.1
  have my := hb.1
  have mw := hw.1
  have HA := Lib.hid ha
  have HB := Lib.hid hb
  have HW := Lib.hid hw
  have HO := Lib.hid ok
  have HR := Lib.hid hws
  clear ha hb hw ok hws
  go_enter Try.func46, Try.ntmps46
  go_wp2_with fail
  obtain ⟨w0, hw0⟩ : ∃ w0, w0 = w.alloc (.cells #[.int .i64 (k : Int), .int .i64 (S : Int), .slice A nx.length c, .slice B out.length d] 24) := ⟨_, rfl⟩
  have K2 : Hid (w0.cell? ⟨w.heap.size, 2, none⟩ = some (.slice A nx.length c)) := Lib.hid (by rw [hw0]; simp)
  have K3 : Hid (w0.cell? ⟨w.heap.size, 3, none⟩ = some (.slice B out.length d)) := Lib.hid (by rw [hw0]; simp)
  have hbel : Below w.heap.size w w0 := by rw [hw0]; exact (Below.refl _ _).alloc (Nat.le_refl _) _
  have hlt : w.heap.size < w0.heap.size := by rw [hw0]; exact size_new _ _
  rw [← hw0]
  clear hw0
  have HI : Hid (OI w0 w0 nx out s s ws [] none 0) := Lib.hid ⟨rfl, rfl, h1, h2, World.ownsRow_nil _ _ _ _, Below.refl _ _⟩
  clear h1 h2
  go_loopw [1, 8, 9] (fun v l u wr => ∃ (G : Option Addr) (g : Nat) (acc : List Int) (t : Int), v = .int .i64 t ∧ l = .slice G acc.length g ∧ u = .int .i64 (acc.length : Int) ∧ acc.length ≤ ws.length ∧ Hid (OI w0 wr nx out s t ws acc G g)) (fun _ _ u _ => ws.length - (intOf u).toNat)
  case atStart => exact ⟨none, 0, [], s, rfl, rfl, rfl, Nat.zero_le _, HI⟩
  case round =>
    clear HI
    obtain ⟨G, g, acc, t, rfl, rfl, rfl, hj, HQ⟩ := hrel
    by_cases hjl : acc.length < ws.length
    · have hbl := below_seq hbel HQ.out.bel
      obtain ⟨ad, a, rfl, ha, hca⟩ := (HW.out.keep hbl).at_ hjl
      have hr := HR.out _ hjl
      rw [ha] at hr
      obtain ⟨n, rfl⟩ : ∃ n : Nat, a = (n : Int) := ⟨a.toNat, by omega⟩
      have s1 := HQ.out.s1
      have s2 := HQ.out.s2
      obtain ⟨q, rfl⟩ : ∃ q : Nat, t = (q : Int) := ⟨t.toNat, by omega⟩
      have hq : q < nx.length := by omega
      have hq2 : q < out.length := by rw [HO.out.o]; exact hq
      have hn : n < k := by omega
      obtain ⟨adA, A1, c1, row, rfl, hrow, hcA, hrA⟩ := (HA.out.keep hbl).at_ hq
      obtain ⟨adB, B1, d1, orow, rfl, horow, hcB, hrB⟩ := (HB.out.keep hbl).at_ hq2
      have hn1 : n < row.length := by rw [← hrow, HO.out.rowN q hq]; exact hn
      have hn2 : n < orow.length := by rw [← horow, HO.out.rowO q hq]; exact hn
      obtain ⟨adA1, tar, rfl, htar, hcA1⟩ := hrA.at_ hn1
      obtain ⟨adB1, o, rfl, ho, hcB1⟩ := hrB.at_ hn2
      have hcell := HO.out.cell q n hq hn
      rw [hrow, htar] at hcell
      have ht1 : 0 ≤ tar := hcell.1
      have ht2 : tar < nx.length := hcell.2.1
      have HE := Lib.hid (outsL_at (nx := nx) (out := out) (s := (q : Int)) hjl)
      have HF := Lib.hid (endL_at (nx := nx) (s := (q : Int)) hjl)
      rw [ha, Int.toNat_natCast, Int.toNat_natCast, horow, ho, hrow, htar] at HE
      rw [ha, Int.toNat_natCast, Int.toNat_natCast, hrow, htar] at HF
      have mrl := hrA.1
      have mol := hrB.1
      have k2 := keep_cell HQ.out.bel K2.out
      have k3 := keep_cell HQ.out.bel K3.out
      have hsz := HQ.out.bel.size
      have HAa := Lib.hid ha
      have HRow := Lib.hid hrow
      have HTar := Lib.hid htar
      clear hrow horow htar ho ha hcell hr hrA hrB s1 s2
      go_upto_region 5 with fail
      refine wp_region_any (by kernel_rfl) ?_
      change wpAny _ _ _ _ _ _ _ (World.drew _)
      generalize hwa : World.drew _ = wa
      have hb0 : Below wr.heap.size wr wa := by rw [← hwa]; exact (Below.refl _ _).drew
      have HO1 := Lib.hid (own_keep HQ.out.own hb0)
      have HB1 := Lib.hid (HQ.out.bel.trans (hb0.mono HQ.out.bel.size))
      replace hca := keep_cell hb0 hca
      replace hcA := keep_cell hb0 hcA
      replace hcA1 := keep_cell hb0 hcA1
      replace hcB := keep_cell hb0 hcB
      replace hcB1 := keep_cell hb0 hcB1
      replace k2 := keep_cell hb0 k2
      replace k3 := keep_cell hb0 k3
      have hsa := HB1.out.size
      clear hwa hb0
      refine take1 (i := 0) (d := some 16) (v := ?_) rfl rfl (by kernel_rfl) (by kernel_rfl) (by kernel_rfl) (fun _ _ _ h => h) (Or.inl ⟨by rfl, ?_⟩) ?_
      rotate_left
      · intro w; first | (go_simp; done) | (go_simp; with_reducible rfl)
      simp only [Act.put, List.setIfInBounds_toArray, List.set_cons_zero, List.set_cons_succ]
      refine take1 (i := 1) (d := some 17) (v := ?_) rfl rfl (by kernel_rfl) (by kernel_rfl) (by kernel_rfl) (fun _ _ _ h => h) (Or.inl ⟨by rfl, ?_⟩) ?_
      rotate_left
      · intro w; first | (go_simp; done) | (go_simp; with_reducible rfl)
      simp only [Act.put, List.setIfInBounds_toArray, List.set_cons_zero, List.set_cons_succ]
      refine take1 (i := 3) (d := some 19) (v := ?_) rfl rfl (by kernel_rfl) (by kernel_rfl) (by kernel_rfl) (fun _ _ _ h => h) (Or.inl ⟨by rfl, ?_⟩) ?_
      rotate_left
      · intro w; first | (go_simp; done) | (go_simp; with_reducible rfl)
      simp only [Act.put, List.setIfInBounds_toArray, List.set_cons_zero, List.set_cons_succ]
      refine take1 (i := 6) (d := some 22) (v := ?_) rfl rfl (by kernel_rfl) (by kernel_rfl) (by kernel_rfl) (fun _ _ _ h => h) (Or.inl ⟨by rfl, ?_⟩) ?_
      rotate_left
      · intro w; first | (go_simp; done) | (go_simp; with_reducible rfl)
      simp only [Act.put, List.setIfInBounds_toArray, List.set_cons_zero, List.set_cons_succ]
      refine take1 (i := 7) (d := some 23) (v := ?_) rfl rfl (by kernel_rfl) (by kernel_rfl) (by kernel_rfl) (fun _ _ _ h => h) (Or.inl ⟨by rfl, ?_⟩) ?_
      rotate_left
      · intro w; first | (go_simp; done) | (go_simp; with_reducible rfl)
      simp only [Act.put, List.setIfInBounds_toArray, List.set_cons_zero, List.set_cons_succ]
      refine take1 (i := 8) (d := some 24) (v := ?_) rfl rfl (by kernel_rfl) (by kernel_rfl) (by kernel_rfl) (fun _ _ _ h => h) (Or.inl ⟨by rfl, ?_⟩) ?_
      rotate_left
      · intro w; first | (go_simp; done) | (go_simp; with_reducible rfl)
      simp only [Act.put, List.setIfInBounds_toArray, List.set_cons_zero, List.set_cons_succ]
      refine wpAny_ready (rs := [2, 9]) (by kernel_rfl) (by simp) ?_
      refine AllReady.cons rfl (fun K hK => ?_) (AllReady.cons rfl (fun K hK => ?_) AllReady.nil)
      · skip
        try go_simp
        refine hK _ _ ?_
        clear hK K
        try simp only [Act.put, List.setIfInBounds_toArray, List.set_cons_zero, List.set_cons_succ]
        refine take1 (i := 4) (d := some 20) (v := ?_) rfl rfl (by kernel_rfl) (by kernel_rfl) (by kernel_rfl) (fun _ _ _ h => h) (Or.inl ⟨by rfl, ?_⟩) ?_
        rotate_left
        · intro w; first | (go_simp; done) | (go_simp; with_reducible rfl)
        simp only [Act.put, List.setIfInBounds_toArray, List.set_cons_zero, List.set_cons_succ]
        refine wpAny_ready (rs := [5, 9]) (by kernel_rfl) (by simp) ?_
        refine AllReady.cons rfl (fun K hK => ?_) (AllReady.cons rfl (fun K hK => ?_) AllReady.nil)
        · skip
          try go_simp
          refine hK _ _ ?_
          clear hK K
          try simp only [Act.put, List.setIfInBounds_toArray, List.set_cons_zero, List.set_cons_succ]
          refine wpAny_ready (rs := [9]) (by kernel_rfl) (by simp) ?_
          refine AllReady.cons rfl (fun K hK => ?_) AllReady.nil
          try go_simp
          refine hK _ _ ?_
          clear hK K
          try simp only [Act.put, List.setIfInBounds_toArray, List.set_cons_zero, List.set_cons_succ]
          refine take1 (i := 10) (d := some 26) (v := ?_) rfl rfl (by kernel_rfl) (by kernel_rfl) (by kernel_rfl) (fun _ _ _ h => h) (Or.inl ⟨by rfl, ?_⟩) ?_
          rotate_left
          · intro w; first | (go_simp; done) | (go_simp; with_reducible rfl)
          simp only [Act.put, List.setIfInBounds_toArray, List.set_cons_zero, List.set_cons_succ]
          refine wpAny_ready (rs := [11]) (by kernel_rfl) (by simp) ?_
          refine AllReady.cons rfl (fun K hK => ?_) AllReady.nil
          try go_simp
          refine hK _ _ ?_
          clear hK K
          try simp only [Act.put, List.setIfInBounds_toArray, List.set_cons_zero, List.set_cons_succ]
          refine wpAny_ready (rs := [12]) (by kernel_rfl) (by simp) ?_
          refine AllReady.cons rfl (fun K hK => ?_) AllReady.nil
          rw [if_pos (by rfl)]
          go_simp
          refine hK _ _ ?_
          clear hK K
          try simp only [Act.put, List.setIfInBounds_toArray, List.set_cons_zero, List.set_cons_succ]
          generalize hwb : World.alloc _ _ = wb
          have hc13 : wb.cell? ⟨wa.heap.size, 0, none⟩ = some (.int .i64 o) := by rw [← hwb]; simp
          have hb : Below wa.heap.size wa wb := by rw [← hwb]; exact (Below.refl _ _).alloc (Nat.le_refl _) _
          have HO2 := Lib.hid (own_keep HO1.out hb)
          have HB2 := Lib.hid (HB1.out.trans (hb.mono HB1.out.size))
          generalize wa.heap.size = nb at *
          clear hwb hb
          try simp only [Act.put, List.setIfInBounds_toArray, List.set_cons_zero, List.set_cons_succ]
          refine wpAny_ready (rs := [13]) (by kernel_rfl) (by simp) ?_
          refine AllReady.cons rfl (fun K hK => ?_) AllReady.nil
          refine step1 rfl (.tmp 16) (.tmp 28) 25 3 rfl Try.underlying25 info3 rfl rfl HO2.out rfl hc13 (show acc.length ≤ 1099511627776 by omega) HB2.out.size ?_
          intro v' w5 hown' hb' hsz'
          obtain ⟨G5, g5, rfl⟩ := own_slice hown'
          have HO5 := Lib.hid hown'
          have HB := Lib.hid (hb' w0.heap.size _ (Nat.le_refl _) HB2.out)
          clear hown' hb' hsz'
          refine hK _ _ ?_
          clear hK K hca hcA hcA1 hcB hcB1 k2 k3 hc13
          change wpAny _ _ _ _ _ _ (Act.put _ (some 29) _) _
          try simp only [Act.put, List.setIfInBounds_toArray, List.set_cons_zero, List.set_cons_succ]
          refine take1 (i := 14) (d := some 8) (v := ?_) rfl rfl (by kernel_rfl) (by kernel_rfl) (by kernel_rfl) (fun _ _ _ h => h) (Or.inl ⟨by rfl, ?_⟩) ?_
          rotate_left
          · intro w; first | (go_simp; done) | (go_simp; with_reducible rfl)
          simp only [Act.put, List.setIfInBounds_toArray, List.set_cons_zero, List.set_cons_succ]
          refine wpAny_done (by kernel_rfl) ?_ _
          go_wp2_with fail
          have hbl5 := below_seq hbel HB.out
          obtain ⟨ad2, a2, hF2, ha2, hca2⟩ := (HW.out.keep hbl5).at_ hjl
          injection hF2 with hF2
          subst hF2
          rw [HAa.out] at ha2
          subst ha2
          obtain ⟨adA2, A12, c12, row2, hA2, hrow2, hcA2, hrA2⟩ := (HA.out.keep hbl5).at_ hq
          injection hA2 with hA2
          subst hA2
          rw [HRow.out] at hrow2
          subst hrow2
          obtain ⟨adA12, tar2, rfl, htar2, hcA12⟩ := hrA2.at_ hn1
          rw [HTar.out] at htar2
          subst htar2
          have k2 := keep_cell HB.out K2.out
          have hs5 := HB.out.size
          clear hrA2 hbl5
          go_upto_region 6 with fail
          go_quiet (fail)
          go_wp2_with fail
          go_roundw
          case rel =>
            refine ⟨G5, g5, acc ++ [o], tar, by simp, by simp, by simp, by simp; omega, Lib.hid ⟨?_, ?_, ht1, ht2, ?_, below_drewN' HB.out _⟩⟩
            · rw [List.length_append]; show (acc ++ [o]) ++ outsL nx out tar (ws.drop (acc.length + 1)) = _
              rw [← HQ.out.o, HE.out, List.append_assoc]; rfl
            · rw [List.length_append]; show endL nx tar (ws.drop (acc.length + 1)) = _
              rw [← HQ.out.e, HF.out]
            · rw [List.map_append, List.length_append]; exact own_keep HO5.out (below_drewN' (Below.refl _ _) _)
          case measure => first | (simp [intOf]; done) | (simp [intOf]; omega)
        · skip
          try go_simp
          refine hK _ _ ?_
          clear hK K
          try simp only [Act.put, List.setIfInBounds_toArray, List.set_cons_zero, List.set_cons_succ]
          refine wpAny_ready (rs := [5]) (by kernel_rfl) (by simp) ?_
          refine AllReady.cons rfl (fun K hK => ?_) AllReady.nil
          try go_simp
          refine hK _ _ ?_
          clear hK K
          try simp only [Act.put, List.setIfInBounds_toArray, List.set_cons_zero, List.set_cons_succ]
          refine take1 (i := 10) (d := some 26) (v := ?_) rfl rfl (by kernel_rfl) (by kernel_rfl) (by kernel_rfl) (fun _ _ _ h => h) (Or.inl ⟨by rfl, ?_⟩) ?_
          rotate_left
          · intro w; first | (go_simp; done) | (go_simp; with_reducible rfl)
          simp only [Act.put, List.setIfInBounds_toArray, List.set_cons_zero, List.set_cons_succ]
          refine wpAny_ready (rs := [11]) (by kernel_rfl) (by simp) ?_
          refine AllReady.cons rfl (fun K hK => ?_) AllReady.nil
          try go_simp
          refine hK _ _ ?_
          clear hK K
          try simp only [Act.put, List.setIfInBounds_toArray, List.set_cons_zero, List.set_cons_succ]
          refine wpAny_ready (rs := [12]) (by kernel_rfl) (by simp) ?_
          refine AllReady.cons rfl (fun K hK => ?_) AllReady.nil
          rw [if_pos (by rfl)]
          go_simp
          refine hK _ _ ?_
          clear hK K
          try simp only [Act.put, List.setIfInBounds_toArray, List.set_cons_zero, List.set_cons_succ]
          generalize hwb : World.alloc _ _ = wb
          have hc13 : wb.cell? ⟨wa.heap.size, 0, none⟩ = some (.int .i64 o) := by rw [← hwb]; simp
          have hb : Below wa.heap.size wa wb := by rw [← hwb]; exact (Below.refl _ _).alloc (Nat.le_refl _) _
          have HO2 := Lib.hid (own_keep HO1.out hb)
          have HB2 := Lib.hid (HB1.out.trans (hb.mono HB1.out.size))
          generalize wa.heap.size = nb at *
          clear hwb hb
          try simp only [Act.put, List.setIfInBounds_toArray, List.set_cons_zero, List.set_cons_succ]
          refine wpAny_ready (rs := [13]) (by kernel_rfl) (by simp) ?_
          refine AllReady.cons rfl (fun K hK => ?_) AllReady.nil
          refine step1 rfl (.tmp 16) (.tmp 28) 25 3 rfl Try.underlying25 info3 rfl rfl HO2.out rfl hc13 (show acc.length ≤ 1099511627776 by omega) HB2.out.size ?_
          intro v' w5 hown' hb' hsz'
          obtain ⟨G5, g5, rfl⟩ := own_slice hown'
          have HO5 := Lib.hid hown'
          have HB := Lib.hid (hb' w0.heap.size _ (Nat.le_refl _) HB2.out)
          clear hown' hb' hsz'
          refine hK _ _ ?_
          clear hK K hca hcA hcA1 hcB hcB1 k2 k3 hc13
          change wpAny _ _ _ _ _ _ (Act.put _ (some 29) _) _
          try simp only [Act.put, List.setIfInBounds_toArray, List.set_cons_zero, List.set_cons_succ]
          refine take1 (i := 14) (d := some 8) (v := ?_) rfl rfl (by kernel_rfl) (by kernel_rfl) (by kernel_rfl) (fun _ _ _ h => h) (Or.inl ⟨by rfl, ?_⟩) ?_
          rotate_left
          · intro w; first | (go_simp; done) | (go_simp; with_reducible rfl)
          simp only [Act.put, List.setIfInBounds_toArray, List.set_cons_zero, List.set_cons_succ]
          refine wpAny_done (by kernel_rfl) ?_ _
          go_wp2_with fail
          have hbl5 := below_seq hbel HB.out
          obtain ⟨ad2, a2, hF2, ha2, hca2⟩ := (HW.out.keep hbl5).at_ hjl
          injection hF2 with hF2
          subst hF2
          rw [HAa.out] at ha2
          subst ha2
          obtain ⟨adA2, A12, c12, row2, hA2, hrow2, hcA2, hrA2⟩ := (HA.out.keep hbl5).at_ hq
          injection hA2 with hA2
          subst hA2
          rw [HRow.out] at hrow2
          subst hrow2
          obtain ⟨adA12, tar2, rfl, htar2, hcA12⟩ := hrA2.at_ hn1
          rw [HTar.out] at htar2
          subst htar2
          have k2 := keep_cell HB.out K2.out
          have hs5 := HB.out.size
          clear hrA2 hbl5
          go_upto_region 6 with fail
          go_quiet (fail)
          go_wp2_with fail
          go_roundw
          case rel =>
            refine ⟨G5, g5, acc ++ [o], tar, by simp, by simp, by simp, by simp; omega, Lib.hid ⟨?_, ?_, ht1, ht2, ?_, below_drewN' HB.out _⟩⟩
            · rw [List.length_append]; show (acc ++ [o]) ++ outsL nx out tar (ws.drop (acc.length + 1)) = _
              rw [← HQ.out.o, HE.out, List.append_assoc]; rfl
            · rw [List.length_append]; show endL nx tar (ws.drop (acc.length + 1)) = _
              rw [← HQ.out.e, HF.out]
            · rw [List.map_append, List.length_append]; exact own_keep HO5.out (below_drewN' (Below.refl _ _) _)
          case measure => first | (simp [intOf]; done) | (simp [intOf]; omega)
      · skip
        try go_simp
        refine hK _ _ ?_
        clear hK K
        try simp only [Act.put, List.setIfInBounds_toArray, List.set_cons_zero, List.set_cons_succ]
        refine wpAny_ready (rs := [2]) (by kernel_rfl) (by simp) ?_
        refine AllReady.cons rfl (fun K hK => ?_) AllReady.nil
        try go_simp
        refine hK _ _ ?_
        clear hK K
        try simp only [Act.put, List.setIfInBounds_toArray, List.set_cons_zero, List.set_cons_succ]
        refine take1 (i := 4) (d := some 20) (v := ?_) rfl rfl (by kernel_rfl) (by kernel_rfl) (by kernel_rfl) (fun _ _ _ h => h) (Or.inl ⟨by rfl, ?_⟩) ?_
        rotate_left
        · intro w; first | (go_simp; done) | (go_simp; with_reducible rfl)
        simp only [Act.put, List.setIfInBounds_toArray, List.set_cons_zero, List.set_cons_succ]
        refine wpAny_ready (rs := [5]) (by kernel_rfl) (by simp) ?_
        refine AllReady.cons rfl (fun K hK => ?_) AllReady.nil
        try go_simp
        refine hK _ _ ?_
        clear hK K
        try simp only [Act.put, List.setIfInBounds_toArray, List.set_cons_zero, List.set_cons_succ]
        refine take1 (i := 10) (d := some 26) (v := ?_) rfl rfl (by kernel_rfl) (by kernel_rfl) (by kernel_rfl) (fun _ _ _ h => h) (Or.inl ⟨by rfl, ?_⟩) ?_
        rotate_left
        · intro w; first | (go_simp; done) | (go_simp; with_reducible rfl)
        simp only [Act.put, List.setIfInBounds_toArray, List.set_cons_zero, List.set_cons_succ]
        refine wpAny_ready (rs := [11]) (by kernel_rfl) (by simp) ?_
        refine AllReady.cons rfl (fun K hK => ?_) AllReady.nil
        try go_simp
        refine hK _ _ ?_
        clear hK K
        try simp only [Act.put, List.setIfInBounds_toArray, List.set_cons_zero, List.set_cons_succ]
        refine wpAny_ready (rs := [12]) (by kernel_rfl) (by simp) ?_
        refine AllReady.cons rfl (fun K hK => ?_) AllReady.nil
        rw [if_pos (by rfl)]
        go_simp
        refine hK _ _ ?_
        clear hK K
        try simp only [Act.put, List.setIfInBounds_toArray, List.set_cons_zero, List.set_cons_succ]
        generalize hwb : World.alloc _ _ = wb
        have hc13 : wb.cell? ⟨wa.heap.size, 0, none⟩ = some (.int .i64 o) := by rw [← hwb]; simp
        have hb : Below wa.heap.size wa wb := by rw [← hwb]; exact (Below.refl _ _).alloc (Nat.le_refl _) _
        have HO2 := Lib.hid (own_keep HO1.out hb)
        have HB2 := Lib.hid (HB1.out.trans (hb.mono HB1.out.size))
        generalize wa.heap.size = nb at *
        clear hwb hb
        try simp only [Act.put, List.setIfInBounds_toArray, List.set_cons_zero, List.set_cons_succ]
        refine wpAny_ready (rs := [13]) (by kernel_rfl) (by simp) ?_
        refine AllReady.cons rfl (fun K hK => ?_) AllReady.nil
        refine step1 rfl (.tmp 16) (.tmp 28) 25 3 rfl Try.underlying25 info3 rfl rfl HO2.out rfl hc13 (show acc.length ≤ 1099511627776 by omega) HB2.out.size ?_
        intro v' w5 hown' hb' hsz'
        obtain ⟨G5, g5, rfl⟩ := own_slice hown'
        have HO5 := Lib.hid hown'
        have HB := Lib.hid (hb' w0.heap.size _ (Nat.le_refl _) HB2.out)
        clear hown' hb' hsz'
        refine hK _ _ ?_
        clear hK K hca hcA hcA1 hcB hcB1 k2 k3 hc13
        change wpAny _ _ _ _ _ _ (Act.put _ (some 29) _) _
        try simp only [Act.put, List.setIfInBounds_toArray, List.set_cons_zero, List.set_cons_succ]
        refine take1 (i := 14) (d := some 8) (v := ?_) rfl rfl (by kernel_rfl) (by kernel_rfl) (by kernel_rfl) (fun _ _ _ h => h) (Or.inl ⟨by rfl, ?_⟩) ?_
        rotate_left
        · intro w; first | (go_simp; done) | (go_simp; with_reducible rfl)
        simp only [Act.put, List.setIfInBounds_toArray, List.set_cons_zero, List.set_cons_succ]
        refine wpAny_done (by kernel_rfl) ?_ _
        go_wp2_with fail
        have hbl5 := below_seq hbel HB.out
        obtain ⟨ad2, a2, hF2, ha2, hca2⟩ := (HW.out.keep hbl5).at_ hjl
        injection hF2 with hF2
        subst hF2
        rw [HAa.out] at ha2
        subst ha2
        obtain ⟨adA2, A12, c12, row2, hA2, hrow2, hcA2, hrA2⟩ := (HA.out.keep hbl5).at_ hq
        injection hA2 with hA2
        subst hA2
        rw [HRow.out] at hrow2
        subst hrow2
        obtain ⟨adA12, tar2, rfl, htar2, hcA12⟩ := hrA2.at_ hn1
        rw [HTar.out] at htar2
        subst htar2
        have k2 := keep_cell HB.out K2.out
        have hs5 := HB.out.size
        clear hrA2 hbl5
        go_upto_region 6 with fail
        go_quiet (fail)
        go_wp2_with fail
        go_roundw
        case rel =>
          refine ⟨G5, g5, acc ++ [o], tar, by simp, by simp, by simp, by simp; omega, Lib.hid ⟨?_, ?_, ht1, ht2, ?_, below_drewN' HB.out _⟩⟩
          · rw [List.length_append]; show (acc ++ [o]) ++ outsL nx out tar (ws.drop (acc.length + 1)) = _
            rw [← HQ.out.o, HE.out, List.append_assoc]; rfl
          · rw [List.length_append]; show endL nx tar (ws.drop (acc.length + 1)) = _
            rw [← HQ.out.e, HF.out]
          · rw [List.map_append, List.length_append]; exact own_keep HO5.out (below_drewN' (Below.refl _ _) _)
        case measure => first | (simp [intOf]; done) | (simp [intOf]; omega)
    · have he : acc.length = ws.length := by omega
      have h1 := HQ.out.o
      have h2 := HQ.out.e
      rw [he, List.drop_length] at h1 h2
      have HE := Lib.hid (show acc = outsL nx out s ws by rw [← h1]; simp [outsL])
      have HF := Lib.hid (show t = endL nx s ws by rw [← h2]; rfl)
      clear h1 h2
      go_wp2_with fail
      go_ret2
      exact ⟨⟨G, g, by rw [← HE.out, ← HF.out]; rfl, by rw [← HE.out]; exact (own_rd HQ.out.own (by omega)).2⟩, below_seq hbel HQ.out.bel⟩
end Go.Proofs.Ytpoppadihbgbgaa
