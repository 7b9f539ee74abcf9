/- The reference's execution behind a symbol. -/
import Derived.Test.YtpcoddbkcelaoaaDue
import Derived.Test.YtpcoddbkcelaoaaTake
import Derived.Test.YtpcoddbkcelaoaaTks
namespace Go.Proofs.Ytpcoddbkcelaoaa
open Go.RowKit

theorem blk_new3 (w : World) (o o' o'' : Obj) (t : TypeId) (cs : Array Value) : Blk ((((w.alloc o).alloc o').alloc o'').alloc (.cells cs t)) (w.heap.size + 3) t cs := by
  have := Blk.new (((w.alloc o).alloc o').alloc o'') t cs; rwa [alloc_size, alloc_size, alloc_size] at this
theorem ret_c22 {P : Program} {fn : Func} {p q : Tmp} {a : Act} {w : World} {g g' : Nat} {t t' ty ty' : TypeId} {cs cs' : Array Value} {d d' : TypeDesc} {R : Ending → World → Prop} (h : Blk w g t cs) (h' : Blk w g' t' cs') (hf : fn.results = #[.cell p ty, .cell q ty']) (hp : a.tmps.getD p undef = .pointer (some ⟨g, 0, none⟩)) (hq : a.tmps.getD q undef = .pointer (some ⟨g', 0, none⟩))
    (hu : P.underlying ty = some d) (hr : (match d with | .struct _ | .array _ _ => true | _ => false) = true) (hi : (P.info? ty).map (·.size) = some cs.size) (hu' : P.underlying ty' = some d') (hr' : (match d' with | .struct _ | .array _ _ => true | _ => false) = true) (hi' : (P.info? ty').map (·.size) = some cs'.size)
    (hd : a.defers = []) (hR : R (.returned (.tuple #[.agg cs, .agg cs'])) w) : bodyPost P fn R .ret a w := by
  refine bodyPost_ret ?_ hd hR
  have hp' : a.tmps[p]?.getD undef = .pointer (some ⟨g, 0, none⟩) := by simpa using hp
  have hq' : a.tmps[q]?.getD undef = .pointer (some ⟨g', 0, none⟩) := by simpa using hq
  have hl := run_loadVar_row (P := P) w g t ty _ (0, 0) _ h hu hr hi
  have hl' := run_loadVar_row (P := P) w g' t' ty' _ (0, 0) _ h' hu' hr' hi'
  simp [results, hf, hp', hq', asAddr, hl, hl']
theorem rowIs_mv {w w' : World} {g b t n : Nat} {f : Nat → Value} (h : w.rowIs b t n f) (hm : Mv w w' g none) (hne : b ≠ g) : w'.rowIs b t n f := h.of_block (hm.block b (rowIs_lt h) hne (by simp))
theorem rowIs_sets {b g t n : Nat} {f : Nat → Value} (hne : b ≠ g) (vs : List Value) : ∀ (w : World) (o : Nat), w.rowIs b t n f → (w.setCells g o vs).rowIs b t n f := by
  induction vs with
  | nil => intro w o h; exact h
  | cons v vs ih => intro w o h; simp only [World.setCells]; exact ih _ _ (h.setOther hne _)
/-- the timers' times behind a symbol -/
def newAt (m : Tm.M) (cf : Tm.Cfg) (f : Nat → Int) (i : Nat) (now : Int) : Nat → Int := if 0 < (Tm.setA m cf.1 i).2 then Tm.upd f (Tm.setA m cf.1 i).1 (now + (Tm.setA m cf.1 i).2) else f
theorem newAt_yes {m : Tm.M} {cf : Tm.Cfg} {f : Nat → Int} {i : Nat} {now a b : Int} (h : Tm.setA m cf.1 i = (a, b)) (hb : 0 < b) : newAt m cf f i now = Tm.upd f a (now + b) := by unfold newAt; rw [h, if_pos hb]
theorem newAt_no {m : Tm.M} {cf : Tm.Cfg} {f : Nat → Int} {i : Nat} {now a b : Int} (h : Tm.setA m cf.1 i = (a, b)) (hb : ¬ 0 < b) : newAt m cf f i now = f := by unfold newAt; rw [h, if_neg hb]
theorem newAt_neg {m : Tm.M} {cf : Tm.Cfg} {f : Nat → Int} {i : Nat} {now a b : Int} (h : Tm.setA m cf.1 i = (a, b)) (ha : a < 0) : newAt m cf f i now = f := by
  by_cases hb : 0 < b
  · rw [newAt_yes h hb, upd_neg ha]
  · exact newAt_no h hb
/-- what 'taken' hands back -/
def TakenP (w : World) (T : Nat) (cf : Tm.Cfg) (f : Nat → Int) (x : Tm.Ev) (r : Ending) (w' : World) : Prop :=
  (∃ g1 g2, r = .returned (.tuple #[.agg #[.int .i64 (cf.1 : Nat), .slice (some ⟨g1, 0, none⟩) T T, .slice (some ⟨g2, 0, none⟩) T T], .agg #[.int .i64 x.1, .int .i64 x.2.1, .int .i64 x.2.2]]) ∧ w'.rowIs g1 4 T (bits cf.2) ∧ w'.rowIs g2 3 T (ints f) ∧ w.heap.size ≤ g1 ∧ w.heap.size ≤ g2) ∧ Below w.heap.size w w'
set_option maxRecDepth 100000 in
set_option maxHeartbeats 8000000 in
theorem taken_r (m : Tm.M) (k T S : Nat) (A B C : Option Addr) (c d e c1 c2 g1 g2 : Nat) (cf : Tm.Cfg) (f : Nat → Int) (now : Int) (i : Nat) (w : World) (hm : Tm.Ok m k T S) (hc : Tm.CfgOk m.nx.length T cf) (hi : i < k + T) (hR : RdT w A B C m) (h1 : w.rowIs g1 4 T (bits cf.2)) (h2 : w.rowIs g2 3 T (ints f))
    (n0 : 0 ≤ now) (n1 : now ≤ Tm.top) :
    Calls Try.prog 35 #[.agg #[.int .i64 m.I, .int .i64 m.T, .int .i64 m.S, .slice A m.nx.length c, .slice B m.out.length d, .slice C m.set.length e], .agg #[.int .i64 (cf.1 : Nat), .slice (some ⟨g1, 0, none⟩) T c1, .slice (some ⟨g2, 0, none⟩) T c2], .int .i64 i, .int .i64 now] w (TakenP w T (Tm.aftC m k cf i) (newAt m cf f i now) (Tm.evt m cf i now)) := by
  have HM := Lib.hid hm
  have HC := Lib.hid hc
  have h4 := hm.t4
  have h64 := hm.k64
  have h128 := hm.n128
  unfold Tm.top at n1
  have hs := hc.1
  have HR0 := Lib.hid hR
  have H1 := Lib.hid h1
  have H2 := Lib.hid h2
  clear hm hc hR h1 h2
  go_enter Try.func35, Try.ntmps35
  go_upto_region 1 with fail
  generalize hwb : World.alloc _ _ = w0
  have BX : Hid (BoxT w0 w.heap.size m A c B d C e) := Lib.hid (boxT (by rw [← hwb]; exact (((Blk.new _ _ _).alloc _).alloc _).alloc _))
  have P5 : Hid (Blk w0 (w.heap.size + 1) 90 #[.int .i64 (cf.1 : Nat), .slice (some ⟨g1, 0, none⟩) T c1, .slice (some ⟨g2, 0, none⟩) T c2]) := Lib.hid (by rw [← hwb]; exact ((blk_new1 _ _ _ _).alloc _).alloc _)
  have G8 : Hid (Blk w0 (w.heap.size + 2) 90 #[.int .i64 0, .slice none 0 0, .slice none 0 0]) := Lib.hid (by rw [← hwb]; exact (blk_new2 _ _ _ _ _).alloc _)
  have G9 : Hid (Blk w0 (w.heap.size + 3) 53 #[.int .i64 0, .int .i64 0, .int .i64 0]) := Lib.hid (by rw [← hwb]; exact blk_new3 _ _ _ _ _ _)
  have HBL : Hid (Below w.heap.size w w0) := Lib.hid (by rw [← hwb]; exact ((((Below.refl _ _).alloc (Nat.le_refl _) _).alloc (by rw [alloc_size]; omega) _).alloc (by rw [alloc_size, alloc_size]; omega) _).alloc (by rw [alloc_size, alloc_size, alloc_size]; omega) _)
  have HSZ : Hid (w.heap.size + 3 < w0.heap.size) := Lib.hid G9.out.lt
  have hszz := HSZ.out
  have HR := Lib.hid (HR0.out.keep HBL.out)
  replace H1 := Lib.hid (rowIs_keep H1.out HBL.out)
  replace H2 := Lib.hid (rowIs_keep H2.out HBL.out)
  clear hwb HR0
  obtain ⟨bd, B1, d1, os, rfl, hox, co, ro⟩ := HR.out.out.at_ (i := cf.1) (by rw [HM.out.o]; exact hs)
  obtain ⟨gd, C1, e1, ss, rfl, hsx, cs, rs⟩ := HR.out.set.at_ (i := cf.1) (by rw [HM.out.e]; exact hs)
  have hol : i < os.length := by rw [← hox, HM.out.rowO _ hs]; exact hi
  have hsl : i < ss.length := by rw [← hsx, HM.out.rowS _ hs]; exact hi
  obtain ⟨bd1, o, rfl, hot, cot⟩ := ro.at_ hol
  obtain ⟨gd1, a, b, rfl, hab, ca, cb⟩ := rs.at_ hsl
  have hset : Tm.setA m cf.1 i = (a, b) := by unfold Tm.setA; rw [hsx, hab]
  have hout : Tm.evt m cf i now = (now, (i : Int), o) := by unfold Tm.evt Tm.outA; rw [hox, hot]
  have hcell := HM.out.cell cf.1 i hs hi
  rw [hsx, hab] at hcell
  have HSE := Lib.hid hset
  have HOU := Lib.hid hout
  have ha1 := hcell.a1
  have hb0 := hcell.b0
  have hb1 := hcell.b1
  have mo := HR.out.out.1
  have mse := HR.out.set.1
  have mos := ro.1
  have ms := rs.1
  have hselo : (cf.1 : Int) < (m.out.length : Int) := by rw [HM.out.o]; omega
  have hsel : (cf.1 : Int) < (m.set.length : Int) := by rw [HM.out.e]; omega
  have HCS := Lib.hid (And.intro cs (And.intro ca cb))
  have c4 := BX.out.c4
  have p0 : w0.cell? ⟨w.heap.size + 1, 0, none⟩ = some (.int .i64 (cf.1 : Nat)) := P5.out.cell 0
  clear hox hot hsx hab hset hout hcell rs ro cs ca cb
  go_upto_region 2 with fail
  clear c4 p0 co cot
  generalize hw1 : World.alloc _ _ = w1
  have G10 : Hid (Blk w1 w0.heap.size 53 #[.int .i64 now, .int .i64 (i : Int), .int .i64 o]) := Lib.hid (by rw [← hw1]; exact Blk.new _ _ _)
  have HB1 : Hid (Below w0.heap.size w0 w1) := Lib.hid (by rw [← hw1]; exact (Below.refl _ _).alloc (Nat.le_refl _) _)
  clear hw1
  have hs10 : w0.heap.size < w1.heap.size := G10.out.lt
  have c5 := (BX.out.keep HB1.out).c5
  have p0 : w1.cell? ⟨w.heap.size + 1, 0, none⟩ = some (.int .i64 (cf.1 : Nat)) := (P5.out.keep HB1.out).cell 0
  have cs := keep_cell HB1.out HCS.out.1
  have ca := keep_cell HB1.out HCS.out.2.1
  have cb := keep_cell HB1.out HCS.out.2.2
  go_upto_region 3 with (refine wpList_load_any rfl 104 _ rfl (gd1.add (i * 2)) rfl [.int .i64 a, .int .i64 b] _ (cells2' ca cb) Try.underlying104 rfl (by kernel_rfl) ?_)
  clear c5 p0 cs ca cb
  generalize hw2 : World.alloc _ _ = w2
  have G11 : Hid (Blk w2 w1.heap.size 104 #[.int .i64 a, .int .i64 b]) := Lib.hid (by rw [← hw2]; exact Blk.new _ _ _)
  have hb12 : Below w1.heap.size w1 w2 := by rw [← hw2]; exact (Below.refl _ _).alloc (Nat.le_refl _) _
  replace G10 := Lib.hid (G10.out.keep hb12)
  have HB2 := Lib.hid (below_seq HB1.out hb12)
  clear hw2 hb12 HB1
  have hs11 : w1.heap.size < w2.heap.size := G11.out.lt
  have p2 : w2.cell? ⟨w.heap.size + 1, 2, none⟩ = some (.slice (some ⟨g2, 0, none⟩) T c2) := (P5.out.keep HB2.out).cell 2
  have hmk := run_make_row' (P := Try.prog) 59 3 (.int .i64 0) 8 Try.underlying59 info3 rfl .i64 .i64 T (by omega) (by omega)
  go_upto_region 5 with fail
  clear p2 hmk
  generalize hw3 : World.alloc (World.alloc _ _) _ = w3
  have HF3 : Hid (w3.rowIs w2.heap.size 3 T (fun x => .int .i64 (if x < 0 then f x else 0))) := Lib.hid (by
    rw [← hw3]
    exact rowIs_keep ((World.rowIs_made w2 (.int .i64 0) T 3).congr (fun x _ => by simp)) ((Below.refl _ _).alloc (Nat.le_refl _) _))
  have G12 : Hid (Blk w3 (w2.heap.size + 1) 90 #[.int .i64 0, .slice none 0 0, .slice (some ⟨w2.heap.size, 0, none⟩) T T]) := Lib.hid (by rw [← hw3]; exact blk_new1 _ _ _ _)
  have hb23 : Below w2.heap.size w2 w3 := by rw [← hw3]; exact ((Below.refl _ _).alloc (Nat.le_refl _) _).alloc (by rw [alloc_size]; omega) _
  replace G10 := Lib.hid (G10.out.keep hb23)
  replace G11 := Lib.hid (G11.out.keep hb23)
  have HB3 := Lib.hid (below_seq HB2.out hb23)
  clear hw3 hb23 HB2
  generalize hgF : w2.heap.size = gF at *
  clear hgF
  have hs12 : gF + 1 < w3.heap.size := G12.out.lt
  go_loopw [13] (fun v wr => ∃ j : Nat, j ≤ T ∧ v = .int .i64 j ∧ Hid (wr.rowIs gF 3 T (fun x => .int .i64 (if x < j then f x else 0))) ∧ Hid (Mv w3 wr gF none)) (fun v _ => T - (intOf v).toNat)
  case atStart => exact ⟨0, Nat.zero_le _, rfl, HF3, Lib.hid (Mv.refl _ _ _)⟩
  case round =>
    obtain ⟨j, hj, rfl, HF, HV⟩ := hrel
    have hBr : Hid (Below w0.heap.size w0 wr) := Lib.hid (HV.out.below HB3.out HB3.out.size (by omega) (fun b hb => by cases hb))
    have p2 : wr.cell? ⟨w.heap.size + 1, 2, none⟩ = some (.slice (some ⟨g2, 0, none⟩) T c2) := (P5.out.keep hBr.out).cell 2
    by_cases hjT : j < T
    · have hjT' : (j : Int) < (T : Int) := by omega
      go_upto_region 7 with fail
      have q2 : wr.cell? ⟨gF + 1, 2, none⟩ = some (.slice (some ⟨gF, 0, none⟩) T T) := (HV.out.blk G12.out (by omega) (by simp)).cell 2
      have cf2 := (rowIs_keep H2.out hBr.out).cell hjT
      dsimp only [ints] at cf2
      refine wp_region_held_drew (S := fun wx => wx.cell? ⟨gF + 1, 2, none⟩ = some (.slice (some ⟨gF, 0, none⟩) T T) ∧ wx.cell? ⟨w.heap.size + 1, 2, none⟩ = some (.slice (some ⟨g2, 0, none⟩) T c2) ∧ wx.cell? ⟨g2, j, none⟩ = some (.int .i64 (f j))) (by kernel_rfl) (⟨q2, p2, cf2⟩) (fun hS => ?_)
      refine takeH (i := 0) (d := some 49) (v := ?_) rfl rfl (by kernel_rfl) (by kernel_rfl) (by kernel_rfl) (fun _ _ _ h => h) (Or.inl ⟨by rfl, ?_⟩) hS ?_
      rotate_left
      · intro wx hSx; clear hSx; first | (go_simp; done) | (go_simp; with_reducible rfl)
      simp only [Act.put, List.setIfInBounds_toArray, List.set_cons_zero, List.set_cons_succ]
      refine takeH (i := 1) (d := some 50) (v := ?_) rfl rfl (by kernel_rfl) (by kernel_rfl) (by kernel_rfl) (fun _ _ _ h => h) (Or.inl ⟨by rfl, ?_⟩) hS ?_
      rotate_left
      · intro wx hSx; have e0 := hSx.1; have e1 := hSx.2.1; have e2 := hSx.2.2; clear hSx; first | (go_simp; done) | (go_simp; with_reducible rfl)
      simp only [Act.put, List.setIfInBounds_toArray, List.set_cons_zero, List.set_cons_succ]
      refine takeH (i := 2) (d := some 51) (v := ?_) rfl rfl (by kernel_rfl) (by kernel_rfl) (by kernel_rfl) (fun _ _ _ h => h) (Or.inl ⟨by rfl, ?_⟩) hS ?_
      rotate_left
      · intro wx hSx; clear hSx; first | (go_simp; done) | (go_simp; with_reducible rfl)
      simp only [Act.put, List.setIfInBounds_toArray, List.set_cons_zero, List.set_cons_succ]
      refine takeH (i := 3) (d := some 52) (v := ?_) rfl rfl (by kernel_rfl) (by kernel_rfl) (by kernel_rfl) (fun _ _ _ h => h) (Or.inl ⟨by rfl, ?_⟩) hS ?_
      rotate_left
      · intro wx hSx; clear hSx; first | (go_simp; done) | (go_simp; with_reducible rfl)
      simp only [Act.put, List.setIfInBounds_toArray, List.set_cons_zero, List.set_cons_succ]
      refine takeH (i := 4) (d := some 53) (v := ?_) rfl rfl (by kernel_rfl) (by kernel_rfl) (by kernel_rfl) (fun _ _ _ h => h) (Or.inl ⟨by rfl, ?_⟩) hS ?_
      rotate_left
      · intro wx hSx; have e0 := hSx.1; have e1 := hSx.2.1; have e2 := hSx.2.2; clear hSx; first | (go_simp; done) | (go_simp; with_reducible rfl)
      simp only [Act.put, List.setIfInBounds_toArray, List.set_cons_zero, List.set_cons_succ]
      refine takeH (i := 5) (d := some 54) (v := ?_) rfl rfl (by kernel_rfl) (by kernel_rfl) (by kernel_rfl) (fun _ _ _ h => h) (Or.inl ⟨by rfl, ?_⟩) hS ?_
      rotate_left
      · intro wx hSx; clear hSx; first | (go_simp; done) | (go_simp; with_reducible rfl)
      simp only [Act.put, List.setIfInBounds_toArray, List.set_cons_zero, List.set_cons_succ]
      refine takeH (i := 6) (d := some 55) (v := ?_) rfl rfl (by kernel_rfl) (by kernel_rfl) (by kernel_rfl) (fun _ _ _ h => h) (Or.inl ⟨by rfl, ?_⟩) hS ?_
      rotate_left
      · intro wx hSx; clear hSx; first | (go_simp; done) | (go_simp; with_reducible rfl)
      simp only [Act.put, List.setIfInBounds_toArray, List.set_cons_zero, List.set_cons_succ]
      refine takeH (i := 7) (d := some 56) (v := ?_) rfl rfl (by kernel_rfl) (by kernel_rfl) (by kernel_rfl) (fun _ _ _ h => h) (Or.inl ⟨by rfl, ?_⟩) hS ?_
      rotate_left
      · intro wx hSx; have e0 := hSx.1; have e1 := hSx.2.1; have e2 := hSx.2.2; clear hSx; first | (go_simp; done) | (go_simp; with_reducible rfl)
      simp only [Act.put, List.setIfInBounds_toArray, List.set_cons_zero, List.set_cons_succ]
      refine takeH (i := 8) (d := some 57) (v := ?_) rfl rfl (by kernel_rfl) (by kernel_rfl) (by kernel_rfl) (fun _ _ _ h => h) (Or.inl ⟨by rfl, ?_⟩) hS ?_
      rotate_left
      · intro wx hSx; clear hSx; first | (go_simp; done) | (go_simp; with_reducible rfl)
      simp only [Act.put, List.setIfInBounds_toArray, List.set_cons_zero, List.set_cons_succ]
      generalize hwa : World.drew _ = wa at hS ⊢
      replace HF : Hid (wa.rowIs gF 3 T (fun x => .int .i64 (if x < j then f x else 0))) := Lib.hid (by rw [← hwa]; exact HF.out)
      replace HV : Hid (Mv w3 wa gF none) := Lib.hid (by rw [← hwa]; exact HV.out.drew)
      replace hBr : Hid (Below w0.heap.size w0 wa) := Lib.hid (by rw [← hwa]; exact hBr.out.drew)
      clear p2 q2 cf2
      clear hwa
      have HSa := Lib.hid hS
      clear hS
      refine wpAnyH_ready (rs := [9]) (by kernel_rfl) (by simp) ?_
      refine AllReadyH.cons rfl (fun K hK => ?_) AllReadyH.nil
      rw [if_pos (by rfl)]
      have kd := HF.out.cell hjT
      have fd := HF.out.frozen j
      have hB9 : Below w0.heap.size w0 (wa.setCell ⟨gF, j, none⟩ (.int .i64 (f j))) := below_set hBr.out (by show w0.heap.size ≤ gF; omega) _
      try go_simp
      refine hK.out _ _ ⟨((HV.out.set j _).blk G12.out (by omega) (by simp)).cell 2, (P5.out.keep hB9).cell 2, (rowIs_keep H2.out hB9).cell hjT⟩ (fun hS2 => ?_)
      clear hK K hS2 kd fd hB9
      try simp only [Act.put, List.setIfInBounds_toArray, List.set_cons_zero, List.set_cons_succ]
      refine wpAnyH_done (by kernel_rfl) ?_ _
      go_wp2_with fail
      go_roundw
      case rel =>
        refine ⟨j + 1, by omega, by go_num, Lib.hid ((HF.out.set j _).congr (fun x hx => ?_)), Lib.hid (HV.out.set j _)⟩
        by_cases e : x = j
        · subst e; rw [if_pos rfl, if_pos (by omega)]
        · have : x < j ↔ x < j + 1 := by omega
          rw [if_neg e]; simp [this]
      case measure => simp [intOf] <;> omega
    obtain rfl : j = T := by omega
    have hTT : ¬ ((j : Int) < (j : Int)) := by omega
    replace HF : Hid (wr.rowIs gF 3 j (ints f)) := Lib.hid (HF.out.congr (fun x hx => by rw [if_pos hx]))
    have BXr := Lib.hid (BX.out.blk.keep hBr.out)
    have P5r := Lib.hid (P5.out.keep hBr.out)
    have H1r := Lib.hid (rowIs_keep H1.out hBr.out)
    replace G10 := Lib.hid (HV.out.blk G10.out (by omega) (by simp))
    replace G11 := Lib.hid (HV.out.blk G11.out (by omega) (by simp))
    replace G12 := Lib.hid (HV.out.blk G12.out (by omega) (by simp))
    have G8r := Lib.hid (G8.out.keep hBr.out)
    have G9r := Lib.hid (G9.out.keep hBr.out)
    have hsr : w3.heap.size ≤ wr.heap.size := HV.out.size
    clear HF3 HB3 HV H2
    go_upto_region 8 with fail
    clear p2
    go_wp2_with (first | (refine wpList_load_row rfl 25 _ rfl w.heap.size rfl 25 #[.int .i64 m.I, .int .i64 m.T, .int .i64 m.S, .slice A m.nx.length c, .slice (some bd) m.out.length d, .slice (some gd) m.set.length e] (0, 0) _ BXr.out Try.underlying25 rfl (by kernel_rfl) ?_) | (refine wpList_load_any rfl 74 _ rfl ⟨w.heap.size + 1, 0, none⟩ rfl [.int .i64 (cf.1 : Nat), .slice (some ⟨g1, 0, none⟩) j c1] _ (P5r.out.part 0 _ rfl) Try.underlying74 rfl (by kernel_rfl) ?_))
    refine (after_r m k j S cf i A (some bd) (some gd) (some ⟨g1, 0, none⟩) c d e c1 wr HM.out HC.out hi (HR.out.keep hBr.out) (rowB_rd H1r.out HC.out.2 (by omega))).mono ?_
    rintro r w5 ⟨⟨gN, rfl, hgN, hgN2⟩, hb⟩
    have HN := Lib.hid hgN
    replace HF := Lib.hid (rowIs_keep HF.out hb)
    replace G10 := Lib.hid (G10.out.keep hb)
    replace G11 := Lib.hid (G11.out.keep hb)
    replace G12 := Lib.hid (G12.out.keep hb)
    replace G8r := Lib.hid (G8r.out.keep hb)
    replace G9r := Lib.hid (G9r.out.keep hb)
    have HB5 := Lib.hid (below_seq hBr.out hb)
    have hs5 := hb.size
    clear hgN hb hBr BXr P5r H1r
    generalize hcfN : Tm.aftC m k cf i = cfN at *
    have HCFN := Lib.hid hcfN
    clear hcfN
    have hne1 : gN ≠ gF + 1 := rowIs_ne HN.out G12.out (by decide)
    have hne2 : gF ≠ gN := by omega
    go_upto_region 9 with (refine wpList_store_mid rfl 74 _ _ rfl (gF + 1) 0 #[.int .i64 (cfN.1 : Nat), .slice (some ⟨gN, 0, none⟩) j j] rfl rfl (fun x hx => ?_) (by kernel_rfl) (by simp [Value.oneCell']) ?_)
    · have hx2 : x < 2 := hx
      refine ⟨?_, G12.out.frozen _⟩
      rw [G12.out.cell]
      rcases x with _ | _ | x <;> first | rfl | omega
    generalize hw6 : World.setCells _ _ _ _ = w6
    have G12n : Hid (Blk w6 (gF + 1) 90 #[.int .i64 (cfN.1 : Nat), .slice (some ⟨gN, 0, none⟩) j j, .slice (some ⟨gF, 0, none⟩) j j]) := Lib.hid (by rw [← hw6]; simp only [World.setCells]; exact ((G12.out.set_ 0 _).set_ 1 _).fit rfl)
    replace G10 := Lib.hid (show Blk w6 _ _ _ by rw [← hw6]; exact blk_sets (by omega) _ _ G10.out)
    replace G11 := Lib.hid (show Blk w6 _ _ _ by rw [← hw6]; exact blk_sets (by omega) _ _ G11.out)
    replace G8r := Lib.hid (show Blk w6 _ _ _ by rw [← hw6]; exact blk_sets (by omega) _ _ G8r.out)
    replace G9r := Lib.hid (show Blk w6 _ _ _ by rw [← hw6]; exact blk_sets (by omega) _ _ G9r.out)
    replace HF := Lib.hid (show w6.rowIs _ _ _ _ by rw [← hw6]; exact rowIs_sets (by omega) _ _ _ HF.out)
    replace HN := Lib.hid (show w6.rowIs _ _ _ _ by rw [← hw6]; exact rowIs_sets hne1 _ _ _ HN.out)
    replace HB5 : Hid (Below w0.heap.size w0 w6) := Lib.hid (by rw [← hw6]; exact below_sets (by omega) _ _ HB5.out)
    clear hw6 G12
    have HBW := Lib.hid (below_seq HBL.out HB5.out)
    have hsf : w0.heap.size ≤ gF := by omega
    have hwN : w.heap.size ≤ gN := by omega
    clear HB5 HBL HR BX P5 G8 G9 H1 HSZ HCS HM HC
    generalize w1.heap.size = k11 at *
    generalize w0.heap.size = k10 at *
    have g0 : w6.cell? ⟨k11, 0, none⟩ = some (.int .i64 a) := G11.out.cell 0
    have g1x : w6.cell? ⟨k11, 1, none⟩ = some (.int .i64 b) := G11.out.cell 1
    by_cases q1 : a < 0
    · have d1 : ¬ 0 ≤ a := by omega
      go_upto_region 11 with fail
      clear g0 g1x G11
      refine wp_region_held_drew (S := fun wx => Blk wx (gF + 1) 90 #[.int .i64 (cfN.1 : Nat), .slice (some ⟨gN, 0, none⟩) j j, .slice (some ⟨gF, 0, none⟩) j j] ∧ Blk wx k10 53 #[.int .i64 now, .int .i64 (i : Int), .int .i64 o] ∧ (∃ z, z.size = 3 ∧ Blk wx (w.heap.size + 2) 90 z) ∧ (∃ z, z.size = 3 ∧ Blk wx (w.heap.size + 3) 53 z) ∧ Below w.heap.size w wx ∧ wx.rowIs gN 4 j (bits cfN.2) ∧ wx.rowIs gF 3 j (ints f)) (by kernel_rfl) (⟨G12n.out, G10.out, ⟨_, rfl, G8r.out⟩, ⟨_, rfl, G9r.out⟩, HBW.out.drew, HN.out, HF.out⟩) (fun hS => ?_)
      refine takeH (i := 0) (d := some 84) (v := .agg #[.int .i64 (cfN.1 : Nat), .slice (some ⟨gN, 0, none⟩) j j, .slice (some ⟨gF, 0, none⟩) j j]) rfl rfl (by kernel_rfl) (by kernel_rfl) (by kernel_rfl) (fun _ _ _ h => h) (yieldsIf_load_any (by rfl) 90 _ rfl ⟨gF + 1, 0, none⟩ rfl [.int .i64 (cfN.1 : Nat), .slice (some ⟨gN, 0, none⟩) j j, .slice (some ⟨gF, 0, none⟩) j j] _ (fun wx hSx => hSx.1.part 0 _ rfl) Try.underlying90 rfl (by kernel_rfl)) hS ?_
      simp only [Act.put, List.setIfInBounds_toArray, List.set_cons_zero, List.set_cons_succ]
      refine takeH (i := 1) (d := some 85) (v := .agg #[.int .i64 now, .int .i64 (i : Int), .int .i64 o]) rfl rfl (by kernel_rfl) (by kernel_rfl) (by kernel_rfl) (fun _ _ _ h => h) (yieldsIf_load_any (by rfl) 53 _ rfl ⟨k10, 0, none⟩ rfl [.int .i64 now, .int .i64 (i : Int), .int .i64 o] _ (fun wx hSx => hSx.2.1.part 0 _ rfl) Try.underlying53 rfl (by kernel_rfl)) hS ?_
      simp only [Act.put, List.setIfInBounds_toArray, List.set_cons_zero, List.set_cons_succ]
      generalize hwa : World.drew _ = wa at hS ⊢
      clear hwa
      have HSa := Lib.hid hS
      clear hS
      refine wpAnyH_ready (rs := [2]) (by kernel_rfl) (by simp) ?_
      refine AllReadyH.cons rfl (fun K hK => ?_) AllReadyH.nil
      obtain ⟨z, hz, hz6⟩ := HSa.out.2.2.1
      rw [if_pos (by rfl)]
      refine wp_store_row 90 _ _ rfl (w.heap.size + 2) #[.int .i64 (cfN.1 : Nat), .slice (some ⟨gN, 0, none⟩) j j, .slice (some ⟨gF, 0, none⟩) j j] rfl rfl 90 _ hz6 (by kernel_rfl) (by rw [hz]; rfl) (by simp [Value.oneCell']) ?_
      refine hK.out _ _ ⟨far_row_blk HSa.out.1 (by omega), far_row_blk HSa.out.2.1 (by omega), ⟨_, rfl, set_row_blk hz6⟩, HSa.out.2.2.2.1.elim (fun z' hz' => ⟨z', hz'.1, far_row_blk hz'.2 (by omega)⟩), below_row HSa.out.2.2.2.2.1 (by omega) _, rowIs_far HSa.out.2.2.2.2.2.1 (by omega), rowIs_far HSa.out.2.2.2.2.2.2 (by omega)⟩ (fun hS2 => ?_)
      clear hK K
      change wpAnyH _ _ _ _ _ _ _ (Act.put _ none _) _
      try simp only [Act.put]
      have G8e := Lib.hid (set_row_blk (cs' := #[.int .i64 (cfN.1 : Nat), .slice (some ⟨gN, 0, none⟩) j j, .slice (some ⟨gF, 0, none⟩) j j]) hz6)
      replace HSa := Lib.hid hS2
      clear hS2 hz6 hz z
      generalize World.setRow _ _ _ = wb at *
      clear wa
      rename World => wa
      refine wpAnyH_ready (rs := [3]) (by kernel_rfl) (by simp) ?_
      refine AllReadyH.cons rfl (fun K hK => ?_) AllReadyH.nil
      obtain ⟨z, hz, hz6⟩ := HSa.out.2.2.2.1
      rw [if_pos (by rfl)]
      refine wp_store_row 53 _ _ rfl (w.heap.size + 3) #[.int .i64 now, .int .i64 (i : Int), .int .i64 o] rfl rfl 53 _ hz6 (by kernel_rfl) (by rw [hz]; rfl) (by simp [Value.oneCell']) ?_
      refine hK.out _ _ ⟨far_row_blk HSa.out.1 (by omega), far_row_blk HSa.out.2.1 (by omega), HSa.out.2.2.1.elim (fun z' hz' => ⟨z', hz'.1, far_row_blk hz'.2 (by omega)⟩), ⟨_, rfl, set_row_blk hz6⟩, below_row HSa.out.2.2.2.2.1 (by omega) _, rowIs_far HSa.out.2.2.2.2.2.1 (by omega), rowIs_far HSa.out.2.2.2.2.2.2 (by omega)⟩ (fun hS2 => ?_)
      clear hK K
      change wpAnyH _ _ _ _ _ _ _ (Act.put _ none _) _
      try simp only [Act.put]
      have G9e := Lib.hid (set_row_blk (cs' := #[.int .i64 now, .int .i64 (i : Int), .int .i64 o]) hz6)
      replace G8e := Lib.hid (far_row_blk (g' := w.heap.size + 3) (cs' := #[.int .i64 now, .int .i64 (i : Int), .int .i64 o]) G8e.out (by omega))
      replace HSa := Lib.hid hS2
      clear hS2 hz6 hz z
      generalize World.setRow _ _ _ = wb at *
      clear wa
      rename World => wa
      refine wpAnyH_done (by kernel_rfl) ?_ _
      go_wp2_with fail
      refine ret_c22 G8e.out G9e.out rfl rfl rfl Try.underlying90 rfl (by kernel_rfl) Try.underlying53 rfl (by kernel_rfl) rfl ?_
      rw [HOU.out]
      refine ⟨⟨gN, gF, rfl, HSa.out.2.2.2.2.2.1, ?_, hwN, by omega⟩, HSa.out.2.2.2.2.1⟩
      rw [newAt_neg HSE.out q1]
      exact HSa.out.2.2.2.2.2.2
    obtain ⟨n, rfl⟩ : ∃ n : Nat, a = n := ⟨a.toNat, by omega⟩
    have d1 : (0 : Int) ≤ (n : Int) := by omega
    have hnT : n < j := by omega
    by_cases q2 : 0 < b
    rotate_left
    · have d2 : ¬ 0 < b := q2
      go_upto_region 11 with fail
      clear g0 g1x G11
      refine wp_region_held_drew (S := fun wx => Blk wx (gF + 1) 90 #[.int .i64 (cfN.1 : Nat), .slice (some ⟨gN, 0, none⟩) j j, .slice (some ⟨gF, 0, none⟩) j j] ∧ Blk wx k10 53 #[.int .i64 now, .int .i64 (i : Int), .int .i64 o] ∧ (∃ z, z.size = 3 ∧ Blk wx (w.heap.size + 2) 90 z) ∧ (∃ z, z.size = 3 ∧ Blk wx (w.heap.size + 3) 53 z) ∧ Below w.heap.size w wx ∧ wx.rowIs gN 4 j (bits cfN.2) ∧ wx.rowIs gF 3 j (ints f)) (by kernel_rfl) (⟨G12n.out, G10.out, ⟨_, rfl, G8r.out⟩, ⟨_, rfl, G9r.out⟩, HBW.out.drew, HN.out, HF.out⟩) (fun hS => ?_)
      refine takeH (i := 0) (d := some 84) (v := .agg #[.int .i64 (cfN.1 : Nat), .slice (some ⟨gN, 0, none⟩) j j, .slice (some ⟨gF, 0, none⟩) j j]) rfl rfl (by kernel_rfl) (by kernel_rfl) (by kernel_rfl) (fun _ _ _ h => h) (yieldsIf_load_any (by rfl) 90 _ rfl ⟨gF + 1, 0, none⟩ rfl [.int .i64 (cfN.1 : Nat), .slice (some ⟨gN, 0, none⟩) j j, .slice (some ⟨gF, 0, none⟩) j j] _ (fun wx hSx => hSx.1.part 0 _ rfl) Try.underlying90 rfl (by kernel_rfl)) hS ?_
      simp only [Act.put, List.setIfInBounds_toArray, List.set_cons_zero, List.set_cons_succ]
      refine takeH (i := 1) (d := some 85) (v := .agg #[.int .i64 now, .int .i64 (i : Int), .int .i64 o]) rfl rfl (by kernel_rfl) (by kernel_rfl) (by kernel_rfl) (fun _ _ _ h => h) (yieldsIf_load_any (by rfl) 53 _ rfl ⟨k10, 0, none⟩ rfl [.int .i64 now, .int .i64 (i : Int), .int .i64 o] _ (fun wx hSx => hSx.2.1.part 0 _ rfl) Try.underlying53 rfl (by kernel_rfl)) hS ?_
      simp only [Act.put, List.setIfInBounds_toArray, List.set_cons_zero, List.set_cons_succ]
      generalize hwa : World.drew _ = wa at hS ⊢
      clear hwa
      have HSa := Lib.hid hS
      clear hS
      refine wpAnyH_ready (rs := [2]) (by kernel_rfl) (by simp) ?_
      refine AllReadyH.cons rfl (fun K hK => ?_) AllReadyH.nil
      obtain ⟨z, hz, hz6⟩ := HSa.out.2.2.1
      rw [if_pos (by rfl)]
      refine wp_store_row 90 _ _ rfl (w.heap.size + 2) #[.int .i64 (cfN.1 : Nat), .slice (some ⟨gN, 0, none⟩) j j, .slice (some ⟨gF, 0, none⟩) j j] rfl rfl 90 _ hz6 (by kernel_rfl) (by rw [hz]; rfl) (by simp [Value.oneCell']) ?_
      refine hK.out _ _ ⟨far_row_blk HSa.out.1 (by omega), far_row_blk HSa.out.2.1 (by omega), ⟨_, rfl, set_row_blk hz6⟩, HSa.out.2.2.2.1.elim (fun z' hz' => ⟨z', hz'.1, far_row_blk hz'.2 (by omega)⟩), below_row HSa.out.2.2.2.2.1 (by omega) _, rowIs_far HSa.out.2.2.2.2.2.1 (by omega), rowIs_far HSa.out.2.2.2.2.2.2 (by omega)⟩ (fun hS2 => ?_)
      clear hK K
      change wpAnyH _ _ _ _ _ _ _ (Act.put _ none _) _
      try simp only [Act.put]
      have G8e := Lib.hid (set_row_blk (cs' := #[.int .i64 (cfN.1 : Nat), .slice (some ⟨gN, 0, none⟩) j j, .slice (some ⟨gF, 0, none⟩) j j]) hz6)
      replace HSa := Lib.hid hS2
      clear hS2 hz6 hz z
      generalize World.setRow _ _ _ = wb at *
      clear wa
      rename World => wa
      refine wpAnyH_ready (rs := [3]) (by kernel_rfl) (by simp) ?_
      refine AllReadyH.cons rfl (fun K hK => ?_) AllReadyH.nil
      obtain ⟨z, hz, hz6⟩ := HSa.out.2.2.2.1
      rw [if_pos (by rfl)]
      refine wp_store_row 53 _ _ rfl (w.heap.size + 3) #[.int .i64 now, .int .i64 (i : Int), .int .i64 o] rfl rfl 53 _ hz6 (by kernel_rfl) (by rw [hz]; rfl) (by simp [Value.oneCell']) ?_
      refine hK.out _ _ ⟨far_row_blk HSa.out.1 (by omega), far_row_blk HSa.out.2.1 (by omega), HSa.out.2.2.1.elim (fun z' hz' => ⟨z', hz'.1, far_row_blk hz'.2 (by omega)⟩), ⟨_, rfl, set_row_blk hz6⟩, below_row HSa.out.2.2.2.2.1 (by omega) _, rowIs_far HSa.out.2.2.2.2.2.1 (by omega), rowIs_far HSa.out.2.2.2.2.2.2 (by omega)⟩ (fun hS2 => ?_)
      clear hK K
      change wpAnyH _ _ _ _ _ _ _ (Act.put _ none _) _
      try simp only [Act.put]
      have G9e := Lib.hid (set_row_blk (cs' := #[.int .i64 now, .int .i64 (i : Int), .int .i64 o]) hz6)
      replace G8e := Lib.hid (far_row_blk (g' := w.heap.size + 3) (cs' := #[.int .i64 now, .int .i64 (i : Int), .int .i64 o]) G8e.out (by omega))
      replace HSa := Lib.hid hS2
      clear hS2 hz6 hz z
      generalize World.setRow _ _ _ = wb at *
      clear wa
      rename World => wa
      refine wpAnyH_done (by kernel_rfl) ?_ _
      go_wp2_with fail
      refine ret_c22 G8e.out G9e.out rfl rfl rfl Try.underlying90 rfl (by kernel_rfl) Try.underlying53 rfl (by kernel_rfl) rfl ?_
      rw [HOU.out]
      refine ⟨⟨gN, gF, rfl, HSa.out.2.2.2.2.2.1, ?_, hwN, by omega⟩, HSa.out.2.2.2.2.1⟩
      rw [newAt_no HSE.out (by omega)]
      exact HSa.out.2.2.2.2.2.2
    have d2 : 0 < b := q2
    have ck := HF.out.cell hnT
    have fk := HF.out.frozen n
    have k2 : w6.cell? ⟨gF + 1, 2, none⟩ = some (.slice (some ⟨gF, 0, none⟩) j j) := G12n.out.cell 2
    have hwr : (now + b : Int) = now + b := rfl
    go_upto_region 11 with fail
    clear ck fk g0 g1x k2 d1 d2
    generalize hw7 : World.setCell _ _ _ = w7
    replace HF : Hid (w7.rowIs gF 3 j (ints (Tm.upd f (n : Int) (now + b)))) := Lib.hid (by
      rw [← hw7]
      refine (HF.out.set n _).congr fun x hx => ?_
      show (if x = n then _ else _) = Value.int .i64 (Tm.upd f (n : Int) (now + b) x)
      unfold Tm.upd
      rw [Int.toNat_natCast]
      by_cases e : x = n
      · rw [if_pos e, if_pos ⟨by omega, e⟩]
      · rw [if_neg e, if_neg (fun h => e h.2)])
    replace HN := Lib.hid (show w7.rowIs _ _ _ _ by rw [← hw7]; exact HN.out.setOther (by show gN ≠ gF; omega) _)
    replace G12n := Lib.hid (show Blk w7 _ _ _ by rw [← hw7]; exact G12n.out.far (by show gF + 1 ≠ gF; omega) _)
    replace G10 := Lib.hid (show Blk w7 _ _ _ by rw [← hw7]; exact G10.out.far (by show k10 ≠ gF; omega) _)
    replace G8r := Lib.hid (show Blk w7 _ _ _ by rw [← hw7]; exact G8r.out.far (by show w.heap.size + 2 ≠ gF; omega) _)
    replace G9r := Lib.hid (show Blk w7 _ _ _ by rw [← hw7]; exact G9r.out.far (by show w.heap.size + 3 ≠ gF; omega) _)
    replace HBW : Hid (Below w.heap.size w w7) := Lib.hid (by rw [← hw7]; exact below_set HBW.out (by show w.heap.size ≤ gF; omega) _)
    clear hw7 G11
    refine wp_region_held_drew (S := fun wx => Blk wx (gF + 1) 90 #[.int .i64 (cfN.1 : Nat), .slice (some ⟨gN, 0, none⟩) j j, .slice (some ⟨gF, 0, none⟩) j j] ∧ Blk wx k10 53 #[.int .i64 now, .int .i64 (i : Int), .int .i64 o] ∧ (∃ z, z.size = 3 ∧ Blk wx (w.heap.size + 2) 90 z) ∧ (∃ z, z.size = 3 ∧ Blk wx (w.heap.size + 3) 53 z) ∧ Below w.heap.size w wx ∧ wx.rowIs gN 4 j (bits cfN.2) ∧ wx.rowIs gF 3 j (ints (Tm.upd f (n : Int) (now + b)))) (by kernel_rfl) (⟨G12n.out, G10.out, ⟨_, rfl, G8r.out⟩, ⟨_, rfl, G9r.out⟩, HBW.out.drew, HN.out, HF.out⟩) (fun hS => ?_)
    refine takeH (i := 0) (d := some 84) (v := .agg #[.int .i64 (cfN.1 : Nat), .slice (some ⟨gN, 0, none⟩) j j, .slice (some ⟨gF, 0, none⟩) j j]) rfl rfl (by kernel_rfl) (by kernel_rfl) (by kernel_rfl) (fun _ _ _ h => h) (yieldsIf_load_any (by rfl) 90 _ rfl ⟨gF + 1, 0, none⟩ rfl [.int .i64 (cfN.1 : Nat), .slice (some ⟨gN, 0, none⟩) j j, .slice (some ⟨gF, 0, none⟩) j j] _ (fun wx hSx => hSx.1.part 0 _ rfl) Try.underlying90 rfl (by kernel_rfl)) hS ?_
    simp only [Act.put, List.setIfInBounds_toArray, List.set_cons_zero, List.set_cons_succ]
    refine takeH (i := 1) (d := some 85) (v := .agg #[.int .i64 now, .int .i64 (i : Int), .int .i64 o]) rfl rfl (by kernel_rfl) (by kernel_rfl) (by kernel_rfl) (fun _ _ _ h => h) (yieldsIf_load_any (by rfl) 53 _ rfl ⟨k10, 0, none⟩ rfl [.int .i64 now, .int .i64 (i : Int), .int .i64 o] _ (fun wx hSx => hSx.2.1.part 0 _ rfl) Try.underlying53 rfl (by kernel_rfl)) hS ?_
    simp only [Act.put, List.setIfInBounds_toArray, List.set_cons_zero, List.set_cons_succ]
    generalize hwa : World.drew _ = wa at hS ⊢
    clear hwa
    have HSa := Lib.hid hS
    clear hS
    refine wpAnyH_ready (rs := [2]) (by kernel_rfl) (by simp) ?_
    refine AllReadyH.cons rfl (fun K hK => ?_) AllReadyH.nil
    obtain ⟨z, hz, hz6⟩ := HSa.out.2.2.1
    rw [if_pos (by rfl)]
    refine wp_store_row 90 _ _ rfl (w.heap.size + 2) #[.int .i64 (cfN.1 : Nat), .slice (some ⟨gN, 0, none⟩) j j, .slice (some ⟨gF, 0, none⟩) j j] rfl rfl 90 _ hz6 (by kernel_rfl) (by rw [hz]; rfl) (by simp [Value.oneCell']) ?_
    refine hK.out _ _ ⟨far_row_blk HSa.out.1 (by omega), far_row_blk HSa.out.2.1 (by omega), ⟨_, rfl, set_row_blk hz6⟩, HSa.out.2.2.2.1.elim (fun z' hz' => ⟨z', hz'.1, far_row_blk hz'.2 (by omega)⟩), below_row HSa.out.2.2.2.2.1 (by omega) _, rowIs_far HSa.out.2.2.2.2.2.1 (by omega), rowIs_far HSa.out.2.2.2.2.2.2 (by omega)⟩ (fun hS2 => ?_)
    clear hK K
    change wpAnyH _ _ _ _ _ _ _ (Act.put _ none _) _
    try simp only [Act.put]
    have G8e := Lib.hid (set_row_blk (cs' := #[.int .i64 (cfN.1 : Nat), .slice (some ⟨gN, 0, none⟩) j j, .slice (some ⟨gF, 0, none⟩) j j]) hz6)
    replace HSa := Lib.hid hS2
    clear hS2 hz6 hz z
    generalize World.setRow _ _ _ = wb at *
    clear wa
    rename World => wa
    refine wpAnyH_ready (rs := [3]) (by kernel_rfl) (by simp) ?_
    refine AllReadyH.cons rfl (fun K hK => ?_) AllReadyH.nil
    obtain ⟨z, hz, hz6⟩ := HSa.out.2.2.2.1
    rw [if_pos (by rfl)]
    refine wp_store_row 53 _ _ rfl (w.heap.size + 3) #[.int .i64 now, .int .i64 (i : Int), .int .i64 o] rfl rfl 53 _ hz6 (by kernel_rfl) (by rw [hz]; rfl) (by simp [Value.oneCell']) ?_
    refine hK.out _ _ ⟨far_row_blk HSa.out.1 (by omega), far_row_blk HSa.out.2.1 (by omega), HSa.out.2.2.1.elim (fun z' hz' => ⟨z', hz'.1, far_row_blk hz'.2 (by omega)⟩), ⟨_, rfl, set_row_blk hz6⟩, below_row HSa.out.2.2.2.2.1 (by omega) _, rowIs_far HSa.out.2.2.2.2.2.1 (by omega), rowIs_far HSa.out.2.2.2.2.2.2 (by omega)⟩ (fun hS2 => ?_)
    clear hK K
    change wpAnyH _ _ _ _ _ _ _ (Act.put _ none _) _
    try simp only [Act.put]
    have G9e := Lib.hid (set_row_blk (cs' := #[.int .i64 now, .int .i64 (i : Int), .int .i64 o]) hz6)
    replace G8e := Lib.hid (far_row_blk (g' := w.heap.size + 3) (cs' := #[.int .i64 now, .int .i64 (i : Int), .int .i64 o]) G8e.out (by omega))
    replace HSa := Lib.hid hS2
    clear hS2 hz6 hz z
    generalize World.setRow _ _ _ = wb at *
    clear wa
    rename World => wa
    refine wpAnyH_done (by kernel_rfl) ?_ _
    go_wp2_with fail
    refine ret_c22 G8e.out G9e.out rfl rfl rfl Try.underlying90 rfl (by kernel_rfl) Try.underlying53 rfl (by kernel_rfl) rfl ?_
    rw [HOU.out]
    refine ⟨⟨gN, gF, rfl, HSa.out.2.2.2.2.2.1, ?_, hwN, by omega⟩, HSa.out.2.2.2.2.1⟩
    rw [newAt_yes HSE.out q2]
    exact HSa.out.2.2.2.2.2.2
end Go.Proofs.Ytpcoddbkcelaoaa
