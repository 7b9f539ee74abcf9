/- The walk of the statement TimerEnds. -/
import Derived.Test.YtpcoddbkcelaoaaLawT
namespace Go.Proofs.Ytpcoddbkcelaoaa
open Go.RowKit

/-- events that a run has handed back: the room is not less than they -/
def EvC (e : Int) (L : List Tm.Ev) (w : World) (r : Ending) (w' : World) : Prop :=
  (∃ X x, r = .returned (.tuple #[.slice X L.length x, .int .i64 e]) ∧ RdL evC 3 w' X L ∧ L.length ≤ x) ∧ Below w.heap.size w w'
theorem EvC.of {m : Tm.M} {wd : List (Int × Int)} {en : Int} {w w' : World} {r : Ending} {e : Int} {L : List Tm.Ev} (hE : runE m wd en = (e, L)) (h : RunP (runE m wd en) w r w') : EvC e L w r w' := by
  have hl := runE_len m wd en
  rw [hE] at h hl
  obtain ⟨⟨v, hv, ho⟩, hb⟩ := h
  have ho' := ho
  rcases ho.2 with ⟨rfl, h0⟩ | ⟨g, cap, cur, rfl, _, _, hc, _⟩
  · have h0' : L.length = 0 := h0
    exact ⟨⟨none, 0, by rw [h0']; exact hv, ⟨by omega, fun h => by omega⟩, by omega⟩, hb⟩
  · have hl' : L.length ≤ 10000 := hl
    exact ⟨⟨_, cap, hv, (ho'.rd evC_len (by omega)).2, hc⟩, hb⟩
theorem run_pC {m : Tm.M} {A B C D : Option Addr} {c d e f : Nat} {wd : List (Int × Int)} {en : Int} {w : World} {x : Int} {L : List Tm.Ev} (hE : runE m wd en = (x, L)) (hR : RdT w A B C m) (hD : Rd2 w D wd) :
    Calls Try.prog 16 #[.agg #[.int .i64 m.I, .int .i64 m.T, .int .i64 m.S, .slice A m.nx.length c, .slice B m.out.length d, .slice C m.set.length e], .slice D wd.length f, .int .i64 en] w (EvC x L w) :=
  (run_p m A B C D c d e f wd en w hR hD).mono fun _ _ h => EvC.of hE h
theorem runE_good' {m : Tm.M} {k T S : Nat} {wd : List (Int × Int)} {en : Int} {L : List Tm.Ev} (hok : Tm.Ok m k T S) (h : runE m wd en = (0, L)) : Tm.WordOk k wd en ∧ Tm.runV m k T S wd en = (0, L) := by
  by_cases hw : Tm.wordE m.I wd en = 0
  · exact ⟨Tm.word_ok (by rw [← hok.I]; exact hw), by rw [← runE_ok hok hw]; exact h⟩
  · rw [runE_word hok.valid hw] at h; exact absurd (congrArg Prod.fst h) hw
theorem RdL.pre {α : Type} {el : α → List Value} {size : Nat} {w : World} {A : Option Addr} {p t : List α} (h : RdL el size w A (p ++ t)) : RdL el size w A p := by
  have hl := h.1
  rw [List.length_append] at hl
  refine ⟨by omega, fun hp => ?_⟩
  obtain ⟨ad, e, hc⟩ := h.2 (by rw [List.length_append]; omega)
  exact ⟨ad, e, fun i x hi => hc i x (by rw [List.getElem?_append_left (List.getElem?_eq_some_iff.1 hi).1]; exact hi)⟩
/-- l[:n] -/
theorem run_pre {P : Program} {t e : TypeId} {s : Nat} (ht : P.underlying t = some (.slice e)) (hinfo : (P.info? e).map (·.size) = some s) (A : Option Addr) (n l c : Nat) (h : n ≤ c) (w : World) :
    (Instr.slice t (.slice A l c) none (some (.int .i64 (n : Int))) none).run P w = .ok (.slice A n c) w := by
  have he : P.elem t = e := by simp [Program.elem, ht]
  obtain ⟨i, hi', hs⟩ := Option.map_eq_some_iff.1 hinfo
  rw [run_slice_h w t A l c (by rw [he]; exact ht) .i64 n (by omega) (by omega)]
  simp [sizeOf, typeInfo, he, hi', hs, sliced, Result.andThen]
  intro _; cases A <;> simp [Addr.add]
set_option maxRecDepth 100000 in
set_option maxHeartbeats 8000000 in
theorem timerEnds_core (m : Tm.M) (A B C D : Option Addr) (c d e f : Nat) (wd : List (Int × Int)) (e0 e1 : Int) (w : World) (hR : RdT w A B C m) (hD : Rd2 w D wd) :
    Calls Try.prog 7 #[.agg #[.int .i64 m.I, .int .i64 m.T, .int .i64 m.S, .slice A m.nx.length c, .slice B m.out.length d, .slice C m.set.length e], .slice D wd.length f, .agg #[.int .i64 e0, .int .i64 e1]] w fun e w' => e = .returned (.bool true) ∧ Below w.heap.size w w' := by
  have ml := hD.1
  obtain ⟨b, hs⟩ : ∃ b, small m = b := ⟨_, rfl⟩
  have HSM := Lib.hid hs
  clear hs
  obtain ⟨x, L, hE⟩ : ∃ x L, runE m wd e0 = (x, L) := ⟨_, _, rfl⟩
  have HE := Lib.hid hE
  have hLl : L.length ≤ 10000 := by have := runE_len m wd e0; rw [hE] at this; exact this
  clear hE
  obtain ⟨y, M, hE⟩ : ∃ x L, runE m wd e1 = (x, L) := ⟨_, _, rfl⟩
  have HF := Lib.hid hE
  have hMl : M.length ≤ 10000 := by have := runE_len m wd e1; rw [hE] at this; exact this
  clear hE
  go_enter Try.func7, Try.ntmps7
  go_upto_region 1 with fail
  generalize hwb : World.alloc _ _ = w0
  have BX : Hid (Blk w0 w.heap.size 25 (tc m A c B d C e)) := Lib.hid (by rw [← hwb]; exact (Blk.new _ _ _).alloc _)
  have BE : Hid (Blk w0 (w.heap.size + 1) 56 #[.int .i64 e0, .int .i64 e1]) := Lib.hid (by rw [← hwb]; have := Blk.new (w.alloc (.cells (tc m A c B d C e) 25)) 56 #[.int .i64 e0, .int .i64 e1]; rw [asize] at this; exact this)
  have HBL : Hid (Below w.heap.size w w0) := Lib.hid (by rw [← hwb]; exact ((Below.refl _ _).alloc (Nat.le_refl _) _).alloc (by rw [asize]; omega) _)
  clear hwb
  have HR := Lib.hid (hR.keep HBL.out)
  have HD := Lib.hid (hD.keep HBL.out)
  clear hR hD
  go_wp2_with (first | (refine wpList_load_row rfl 25 _ rfl w.heap.size rfl 25 (tc m A c B d C e) (0, 0) _ BX.out Try.underlying25 rfl (by kernel_rfl) ?_))
  refine (small_eq c d e HR.out HSM.out).mono ?_
  rintro r w1 ⟨rfl, hb⟩
  replace BX := Lib.hid (BX.out.keep hb)
  replace BE := Lib.hid (BE.out.keep hb)
  replace HR := Lib.hid (HR.out.keep hb)
  replace HD := Lib.hid (HD.out.keep hb)
  replace HBL := Lib.hid (below_seq HBL.out hb)
  clear hb w0
  have p0 : w1.cell? ⟨w.heap.size + 1, 0, none⟩ = some (.int .i64 e0) := BE.out.cell 0
  have p1 : w1.cell? ⟨w.heap.size + 1, 1, none⟩ = some (.int .i64 e1) := BE.out.cell 1
  cases b with
  | false =>
    go_wp2_with fail
    refine (awake_p _).mono ?_
    rintro r wz ⟨rfl, hb⟩
    replace HBL := Lib.hid (below_seq HBL.out hb)
    go_wp2_with fail
    go_ret
    exact ⟨rfl, HBL.out⟩
  | true =>
    by_cases hl : (100 : Int) < (wd.length : Int)
    · skip
      go_wp2_with fail
      refine (awake_p _).mono ?_
      rintro r wz ⟨rfl, hb⟩
      replace HBL := Lib.hid (below_seq HBL.out hb)
      go_wp2_with fail
      go_ret
      exact ⟨rfl, HBL.out⟩
    by_cases h01 : e1 < e0
    · skip
      go_wp2_with fail
      refine (awake_p _).mono ?_
      rintro r wz ⟨rfl, hb⟩
      replace HBL := Lib.hid (below_seq HBL.out hb)
      go_wp2_with fail
      go_ret
      exact ⟨rfl, HBL.out⟩
    go_wp2_with (first | (refine wpList_load_row rfl 25 _ rfl w.heap.size rfl 25 (tc m A c B d C e) (0, 0) _ BX.out Try.underlying25 rfl (by kernel_rfl) ?_))
    clear p0 p1
    refine (run_pC HE.out HR.out HD.out).mono ?_
    rintro r w2 ⟨⟨X, cx, rfl, hX, -⟩, hb⟩
    have HX := Lib.hid hX
    replace BX := Lib.hid (BX.out.keep hb)
    replace BE := Lib.hid (BE.out.keep hb)
    replace HR := Lib.hid (HR.out.keep hb)
    replace HD := Lib.hid (HD.out.keep hb)
    replace HBL := Lib.hid (below_seq HBL.out hb)
    clear hb hX w1
    have p1 : w2.cell? ⟨w.heap.size + 1, 1, none⟩ = some (.int .i64 e1) := BE.out.cell 1
    go_wp2_with (first | (refine wpList_load_row rfl 25 _ rfl w.heap.size rfl 25 (tc m A c B d C e) (0, 0) _ BX.out Try.underlying25 rfl (by kernel_rfl) ?_))
    clear p1
    refine (run_pC HF.out HR.out HD.out).mono ?_
    rintro r w3 ⟨⟨Y, cy, rfl, hY, hcy⟩, hb⟩
    have HY := Lib.hid hY
    replace HX := Lib.hid (HX.out.keep hb)
    replace BE := Lib.hid (BE.out.keep hb)
    replace HBL := Lib.hid (below_seq HBL.out hb)
    clear hb hY w2 BX HR HD
    by_cases hx : x = 0
    rotate_left
    · have e2 : (x != 0) = true := bne_iff_ne.2 hx
      have e3 : decide (x = 0) = false := decide_eq_false hx
      go_wp2_with fail
      refine (awake_p _).mono ?_
      rintro r wz ⟨rfl, hb⟩
      replace HBL := Lib.hid (below_seq HBL.out hb)
      go_wp2_with fail
      go_ret
      exact ⟨rfl, HBL.out⟩
    obtain rfl := hx.symm
    by_cases hy : y = 0
    rotate_left
    · have e2 : (y != 0) = true := bne_iff_ne.2 hy
      have e3 : decide (y = 0) = false := decide_eq_false hy
      go_wp2_with fail
      refine (awake_p _).mono ?_
      rintro r wz ⟨rfl, hb⟩
      replace HBL := Lib.hid (below_seq HBL.out hb)
      go_wp2_with fail
      go_ret
      exact ⟨rfl, HBL.out⟩
    obtain rfl := hy.symm
    obtain ⟨k, T, S, hok, hw0, hr0⟩ := runE_good HE.out
    obtain ⟨hw1, hr1⟩ := runE_good' hok HF.out
    obtain ⟨t, rfl, hA, hB⟩ := Tm.runV_ends hok (show e0 ≤ e1 by omega) hw0 hw1 hr0 hr1
    clear hok hw0 hw1 hr0 hr1 HE HF hx hy HSM
    have hln : (L ++ t).length = L.length + t.length := List.length_append
    have HYP : Hid (RdL evC 3 w3 Y L) := Lib.hid HY.out.pre
    have hLc : L.length ≤ cy := by omega
    have HSL : Hid (∀ wx : World, (Instr.slice 38 (.slice Y (L ++ t).length cy) none (some (.int .i64 (L.length : Int))) none).run Try.prog wx = .ok (.slice Y L.length cy) wx) := Lib.hid fun wx => run_pre Try.underlying38 (s := 3) (by kernel_rfl) Y L.length _ cy hLc wx
    have HA := Lib.hid hA
    have HB := Lib.hid hB
    clear hA hB hLc hcy
    have p0 : w3.cell? ⟨w.heap.size + 1, 0, none⟩ = some (.int .i64 e0) := BE.out.cell 0
    clear BE
    generalize hLT : L ++ t = Q at *
    have HLN := Lib.hid hln
    clear hln
    have HLT := Lib.hid hLT
    clear hLT
    go_upto_region 7 with fail
    go_wp2_with fail
    go_loopw [11] (fun p wr => ∃ n u : Nat, n ≤ L.length ∧ p = .int .i64 n ∧ wr = w3.drewN u) (fun p _ => Q.length - (intOf p).toNat)
    case atStart => exact ⟨0, 0, Nat.zero_le _, rfl, rfl⟩
    case round =>
      obtain ⟨n, u, hn, rfl, rfl⟩ := hrel
      by_cases hnL : n < L.length
      · have hq : Q[n]? = some L[n] := by rw [← HLT.out, List.getElem?_append_left hnL]; exact List.getElem?_eq_getElem hnL
        have ht0 := HA.out _ (List.getElem_mem hnL)
        have hnQ : n < Q.length := by have := HLN.out; omega
        have d1 : decide ((n : Int) < (Q.length : Int)) = true := decide_eq_true (by omega)
        have d2 : decide (n < Q.length) = true := decide_eq_true (by omega)
        generalize L[n] = z at *
        obtain ⟨ad, rfl, hcell⟩ := HY.out.at_ hq
        have g0 := hcell 0 _ rfl
        rw [Nat.add_zero] at g0
        clear hq hcell
        go_wp2_with fail
        go_quiet (fail)
        go_wp2_with fail
        refine ⟨⟨n + 1, _, by omega, by go_num, rfl⟩, ?_⟩
        simp [intOf] <;> omega
      · obtain rfl : n = L.length := by omega
        cases t with
        | nil =>
          have hQ : Q.length ≤ L.length := by have hln := HLN.out; simp at hln; omega
          have d1 : decide ((L.length : Int) < (Q.length : Int)) = false := decide_eq_false (by omega)
          have d2 : decide (L.length < Q.length) = false := decide_eq_false (by omega)
          go_wp2_with fail
          go_quiet (fail)
          have hsl := HSL.out
          go_wp2_with fail
          refine (sev_b rfl (HX.out.keep (below_drewN' (Below.refl _ _) _)) (HYP.out.keep (below_drewN' (Below.refl _ _) _))).mono ?_
          rintro r wy ⟨rfl, hb⟩
          replace HBL := Lib.hid (below_seq HBL.out ((below_drewN' (Below.refl _ _) _).trans (hb.mono (Nat.le_refl _))))
          clear hb hsl HX HYP
          go_wp2_with fail
          refine (awake_p _).mono ?_
          rintro r wz ⟨rfl, hb⟩
          replace HBL := Lib.hid (below_seq HBL.out hb)
          go_wp2_with fail
          go_ret
          exact ⟨rfl, HBL.out⟩
        | cons z t' =>
          have hq : Q[L.length]? = some z := by rw [← HLT.out, List.getElem?_append_right (Nat.le_refl _)]; simp
          have ht0 := HB.out z (List.mem_cons_self ..)
          have hnQ : L.length < Q.length := by have hln := HLN.out; simp at hln; omega
          have d1 : decide ((L.length : Int) < (Q.length : Int)) = true := decide_eq_true (by omega)
          have d2 : decide (L.length < Q.length) = true := decide_eq_true (by omega)
          obtain ⟨ad, rfl, hcell⟩ := HY.out.at_ hq
          have g0 := hcell 0 _ rfl
          rw [Nat.add_zero] at g0
          clear hq hcell
          go_wp2_with fail
          go_quiet (fail)
          have hsl := HSL.out
          go_wp2_with fail
          refine (sev_b rfl (HX.out.keep (below_drewN' (Below.refl _ _) _)) (HYP.out.keep (below_drewN' (Below.refl _ _) _))).mono ?_
          rintro r wy ⟨rfl, hb⟩
          replace HBL := Lib.hid (below_seq HBL.out ((below_drewN' (Below.refl _ _) _).trans (hb.mono (Nat.le_refl _))))
          clear hb hsl HX HYP
          go_wp2_with fail
          refine (awake_p _).mono ?_
          rintro r wz ⟨rfl, hb⟩
          replace HBL := Lib.hid (below_seq HBL.out hb)
          go_wp2_with fail
          go_ret
          exact ⟨rfl, HBL.out⟩
theorem timerEnds_walk (w : World) (a0 a1 a2 : Int) (A3 : Option Addr) (c3 : Nat) (x3 : List (List Int)) (A4 : Option Addr) (c4 : Nat) (x4 : List (List Int)) (A5 : Option Addr) (c5 : Nat) (x5 : List (List (Int × Int))) (A6 : Option Addr) (c6 : Nat) (x6 : List (Int × Int)) (a7 b7 : Int)
    (_ : (Lit.int .i64 a0).wf = true) (_ : (Lit.int .i64 a1).wf = true) (_ : (Lit.int .i64 a2).wf = true) (r3 : RdM .i64 w A3 x3) (_ : WfM .i64 x3) (r4 : RdM .i64 w A4 x4) (_ : WfM .i64 x4) (r5 : RdP w A5 x5) (r6 : Rd2 w A6 x6) (_ : (Lit.int .i64 a7).wf = true) (_ : (Lit.int .i64 b7).wf = true) :
    Calls Try.prog 7 #[.agg #[.int .i64 a0, .int .i64 a1, .int .i64 a2, .slice A3 x3.length c3, .slice A4 x4.length c4, .slice A5 x5.length c5], .slice A6 x6.length c6, .agg #[.int .i64 a7, .int .i64 b7]] w fun e w' => e = .returned (.bool true) ∧ Below w.heap.size w w' :=
  timerEnds_core ⟨a0, a1, a2, x3, x4, x5⟩ A3 A4 A5 A6 c3 c4 c5 c6 x6 a7 b7 w ⟨r3, r4, r5⟩ r6
end Go.Proofs.Ytpcoddbkcelaoaa
