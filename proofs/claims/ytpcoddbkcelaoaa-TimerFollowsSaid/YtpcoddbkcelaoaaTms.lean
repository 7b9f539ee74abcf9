/- The code's times of a timed word. -/
import Derived.Test.YtpcoddbkcelaoaaAftP
namespace Go.Proofs.Ytpcoddbkcelaoaa
open Go.RowKit

theorem info3 : (Try.prog.info? 3).map (fun i => (i.zero, i.size, i.bytes)) = some (some (.int .i64 0), 1, 8) := by kernel_rfl
/-- the times of the first j inputs -/
def timesL (w : List (Int × Int)) (j : Nat) : List Int := (List.range j).map fun i => Tm.nowT w (i + 1)
theorem timesL_len (w : List (Int × Int)) (j : Nat) : (timesL w j).length = j := by simp [timesL]
theorem timesL_succ (w : List (Int × Int)) (j : Nat) : timesL w (j + 1) = timesL w j ++ [Tm.nowT w (j + 1)] := by unfold timesL; rw [List.range_succ, List.map_append]; rfl
theorem timesL_get (w : List (Int × Int)) {i j : Nat} (h : i < j) : (timesL w j).getD i 0 = Tm.nowT w (i + 1) := by
  unfold timesL
  rw [List.getD_eq_getElem?_getD, List.getElem?_map, List.getElem?_range h]; rfl
theorem tick_d {I : Int} {w : List (Int × Int)} {j : Nat} {d z : Int} (h : w.getD j (0, 0) = (d, z)) : Tm.tickE I w j = if d < 0 ∨ Tm.top < d ∨ Tm.top < Tm.nowT w j + d then 2 else if z < 0 ∨ I ≤ z then 1 else 0 := by unfold Tm.tickE; rw [h]
theorem now_d {w : List (Int × Int)} {j : Nat} {d z : Int} (h : w.getD j (0, 0) = (d, z)) : Tm.nowT w (j + 1) = Tm.nowT w j + d := by show _ + _ = _; rw [h]
theorem word_tick {I : Int} {w : List (Int × Int)} {en : Int} {j : Nat} (hl : ¬ 1024 < w.length) (h : ∀ t, t < j → Tm.tickE I w t = 0) (hj : j < w.length) {e : Int} (he : Tm.tickE I w j = e) (h0 : e ≠ 0) : Tm.wordE I w en = e := by
  unfold Tm.wordE
  have : Mea.firstE (Tm.tickE I w) w.length = e := by rw [Mea.firstE_at h (by rw [he]; exact h0) hj, he]
  rw [if_neg hl, this, if_pos h0]
theorem word_long {I : Int} {w : List (Int × Int)} {en : Int} (hl : 1024 < w.length) : Tm.wordE I w en = 3 := by unfold Tm.wordE; rw [if_pos hl]
theorem word_end {I : Int} {w : List (Int × Int)} {en : Int} (hl : ¬ 1024 < w.length) (h : ∀ t, t < w.length → Tm.tickE I w t = 0) : Tm.wordE I w en = if en < Tm.nowT w w.length ∨ Tm.top < en then 2 else 0 := by
  unfold Tm.wordE
  rw [if_neg hl, Mea.firstE_zero h, if_neg (by simp)]
/-- what 'times' hands back -/
def TmsP (I : Int) (wd : List (Int × Int)) (en : Int) (w : World) (r : Ending) (w' : World) : Prop :=
  (∃ v, r = .returned (.tuple #[v, .int .i64 (Tm.wordE I wd en)]) ∧ (Tm.wordE I wd en = 0 → w'.ownsRow w.heap.size 3 1 v wd.length ((timesL wd wd.length).map (.int .i64)))) ∧ Below w.heap.size w w'
set_option maxRecDepth 100000 in
set_option maxHeartbeats 8000000 in
theorem times_p (m : Tm.M) (A B C D : Option Addr) (c d e f : Nat) (wd : List (Int × Int)) (en : Int) (w : World) (hD : Rd2 w D wd) :
    Calls Try.prog 30 #[.agg #[.int .i64 m.I, .int .i64 m.T, .int .i64 m.S, .slice A m.nx.length c, .slice B m.out.length d, .slice C m.set.length e], .slice D wd.length f, .int .i64 en] w (TmsP m.I wd en w) := by
  have HD := Lib.hid hD
  have ml := hD.1
  clear hD
  go_enter Try.func30, Try.ntmps30
  go_upto_region 1 with fail
  generalize hwb : World.alloc _ _ = w0
  have BX : Hid (BoxT w0 w.heap.size m A c B d C e) := Lib.hid (boxT (by rw [← hwb]; exact Blk.new _ _ _))
  have HBL : Hid (Below w.heap.size w w0) := Lib.hid (by rw [← hwb]; exact (Below.refl _ _).alloc (Nat.le_refl _) _)
  clear hwb
  by_cases hl : 1024 < wd.length
  · have HE := Lib.hid (word_long (I := m.I) (en := en) hl)
    have hl' : (1024 : Int) < wd.length := by omega
    go_wp2
    go_ret2
    exact ⟨⟨_, by rw [HE.out]; rfl, fun h => by rw [HE.out] at h; cases h⟩, HBL.out⟩
  have hl' : ¬ (1024 : Int) < wd.length := by omega
  go_wp2_with fail
  clear hl'
  go_loopw [8, 9, 17] (fun a b i wr => ∃ (j : Nat), j ≤ wd.length ∧ i = .int .i64 j ∧ b = .int .i64 (Tm.nowT wd j) ∧ Hid (wr.ownsRow w0.heap.size 3 1 a j ((timesL wd j).map (.int .i64))) ∧ Hid (Below w0.heap.size w0 wr) ∧ Hid (∀ t, t < j → Tm.tickE m.I wd t = 0) ∧ Hid (0 ≤ Tm.nowT wd j ∧ Tm.nowT wd j ≤ 1125899906842624)) (fun _ _ i _ => wd.length - (intOf i).toNat)
  case atStart => exact ⟨0, Nat.zero_le _, rfl, rfl, Lib.hid (World.ownsRow_nil _ _ _ _), Lib.hid (Below.refl _ _), Lib.hid (fun t ht => by omega), Lib.hid (by show (0 : Int) ≤ 0 ∧ (0 : Int) ≤ _; omega)⟩
  case round =>
    obtain ⟨j, hj, rfl, rfl, HO, HB, HZ, HN⟩ := hrel
    have hb0 := HN.out.1
    have hb1 := HN.out.2
    have HBW := Lib.hid (below_seq HBL.out HB.out)
    by_cases hjl : j < wd.length
    rotate_left
    · obtain rfl : j = wd.length := by omega
      have HE := Lib.hid (word_end (I := m.I) (en := en) hl HZ.out)
      generalize Tm.nowT wd wd.length = nw at *
      by_cases q1 : en < nw
      · have HE2 : Hid (Tm.wordE m.I wd en = 2) := Lib.hid (by rw [HE.out, if_pos (.inl q1)])
        go_wp2
        go_ret2
        exact ⟨⟨_, by rw [HE2.out]; rfl, fun h => by rw [HE2.out] at h; cases h⟩, HBW.out⟩
      by_cases q2 : 1125899906842624 < en
      · have HE2 : Hid (Tm.wordE m.I wd en = 2) := Lib.hid (by rw [HE.out, if_pos (.inr q2)])
        go_wp2
        go_ret2
        exact ⟨⟨_, by rw [HE2.out]; rfl, fun h => by rw [HE2.out] at h; cases h⟩, HBW.out⟩
      have HE2 : Hid (Tm.wordE m.I wd en = 0) := Lib.hid (by rw [HE.out, if_neg (fun h => h.elim q1 q2)])
      go_wp2
      go_ret2
      exact ⟨⟨_, by rw [HE2.out]; rfl, fun _ => own_mono HO.out HBL.out.size⟩, HBW.out⟩
    obtain ⟨ad, dl, z, rfl, hdz, c0, c1⟩ := (HD.out.keep (below_seq HBL.out HB.out)).at_ hjl
    have HT := Lib.hid (tick_d (I := m.I) hdz)
    have HNX := Lib.hid (now_d hdz)
    clear hdz
    rename_i wr
    go_upto_region 8 with (refine wpList_load_any rfl 55 _ rfl (ad.add (j * 2)) rfl [.int .i64 dl, .int .i64 z] _ (cells2' c0 c1) Try.underlying55 rfl (by kernel_rfl) ?_)
    clear c0 c1
    generalize hwc : World.alloc _ _ = wc
    have hbc : Below wr.heap.size wr wc := hwc ▸ (Below.refl _ _).alloc (Nat.le_refl _) _
    have g0 : wc.cell? ⟨wr.heap.size, 0, none⟩ = some (.int .i64 dl) := by rw [← hwc, World.cell?_alloc_at (hn := rfl)]; rfl
    have g1 : wc.cell? ⟨wr.heap.size, 1, none⟩ = some (.int .i64 z) := by rw [← hwc, World.cell?_alloc_at (hn := rfl)]; rfl
    have t0 : wc.cell? ⟨w.heap.size, 0, none⟩ = some (.int .i64 m.I) := (BX.out.keep (below_seq HB.out hbc)).c0
    replace HO := Lib.hid (own_keep HO.out hbc)
    replace HB := Lib.hid (below_seq HB.out hbc)
    replace HBW := Lib.hid (below_seq HBL.out HB.out)
    have hbs : w0.heap.size ≤ wc.heap.size := HB.out.size
    clear hwc hbc
    generalize Tm.nowT wd j = nw at *
    have htp : Tm.top = 1125899906842624 := rfl
    rw [htp] at HT
    clear htp
    by_cases q1 : dl < 0
    · have HE := Lib.hid (word_tick (en := en) hl HZ.out hjl (show Tm.tickE m.I wd j = 2 by rw [HT.out, if_pos (.inl q1)]) (by decide))
      go_wp2
      go_ret2
      exact ⟨⟨_, by rw [HE.out]; rfl, fun h => by rw [HE.out] at h; cases h⟩, HBW.out⟩
    by_cases q2 : 1125899906842624 < dl
    · have HE := Lib.hid (word_tick (en := en) hl HZ.out hjl (show Tm.tickE m.I wd j = 2 by rw [HT.out, if_pos (.inr (.inl q2))]) (by decide))
      go_wp2
      go_ret2
      exact ⟨⟨_, by rw [HE.out]; rfl, fun h => by rw [HE.out] at h; cases h⟩, HBW.out⟩
    by_cases q3 : 1125899906842624 - nw < dl
    · have HE := Lib.hid (word_tick (en := en) hl HZ.out hjl (show Tm.tickE m.I wd j = 2 by rw [HT.out, if_pos (.inr (.inr (by omega)))]) (by decide))
      go_wp2
      go_ret2
      exact ⟨⟨_, by rw [HE.out]; rfl, fun h => by rw [HE.out] at h; cases h⟩, HBW.out⟩
    replace HT : Hid (Tm.tickE m.I wd j = if z < 0 ∨ m.I ≤ z then 1 else 0) := Lib.hid (by rw [HT.out, if_neg (by omega)])
    by_cases q4 : z < 0
    · have HE := Lib.hid (word_tick (en := en) hl HZ.out hjl (show Tm.tickE m.I wd j = 1 by rw [HT.out, if_pos (.inl q4)]) (by decide))
      go_wp2
      go_ret2
      exact ⟨⟨_, by rw [HE.out]; rfl, fun h => by rw [HE.out] at h; cases h⟩, HBW.out⟩
    by_cases q5 : m.I ≤ z
    · have HE := Lib.hid (word_tick (en := en) hl HZ.out hjl (show Tm.tickE m.I wd j = 1 by rw [HT.out, if_pos (.inr q5)]) (by decide))
      go_wp2
      go_ret2
      exact ⟨⟨_, by rw [HE.out]; rfl, fun h => by rw [HE.out] at h; cases h⟩, HBW.out⟩
    have HT0 : Hid (Tm.tickE m.I wd j = 0) := Lib.hid (by rw [HT.out, if_neg (by omega)])
    go_upto_region 13 with fail
    clear g0 g1 t0
    go_wp2_with (at_builtin; refine app1 rfl (.tmp 50) (.tmp 52) 59 3 _ _ rfl Try.underlying59 info3 rfl (by decide) rfl rfl HO.out rfl (by omega) hbs ?_; intro v' w1 hown' hb' hsz')
    have HO1 := Lib.hid hown'
    have HB1 := Lib.hid (hb' w0.heap.size w0 (Nat.le_refl _) HB.out)
    clear hown' hb'
    go_roundw
    case rel =>
      refine ⟨j + 1, by omega, by go_num, by rw [HNX.out], Lib.hid ?_, Lib.hid ?_, Lib.hid (fun t ht => ?_), Lib.hid (by rw [HNX.out]; omega)⟩
      · rw [timesL_succ, HNX.out, List.map_append]; exact HO1.out
      · exact HB1.out
      · by_cases e : t = j
        · rw [e]; exact HT0.out
        · exact HZ.out t (by omega)
    case measure => simp [intOf] <;> omega
end Go.Proofs.Ytpcoddbkcelaoaa
