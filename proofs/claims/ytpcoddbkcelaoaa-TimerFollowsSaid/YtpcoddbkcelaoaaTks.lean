/- The reference's times of a timed word. -/
import Derived.Test.YtpcoddbkcelaoaaTms
namespace Go.Proofs.Ytpcoddbkcelaoaa
open Go.RowKit

/-- a field of an element, as a walk spells it -/
theorem cell_fld {w : World} {a : Addr} {i k : Nat} {v : Value} (h : w.cell? (a.add (i + k)) = some v) (hk : 0 < k) : w.cell? ⟨(a.add i).block, (a.add i).off + k, none⟩ = some v := by
  have e : (⟨(a.add i).block, (a.add i).off + k, none⟩ : Addr) = a.add (i + k) := by
    rw [← ad_add]
    generalize a.add i = b
    unfold Addr.add
    rw [if_neg (by omega)]
  rw [e]; exact h
set_option maxRecDepth 100000 in
set_option maxHeartbeats 8000000 in
theorem ticks_r (m : Tm.M) (A B C D : Option Addr) (c d e f : Nat) (wd : List (Int × Int)) (en : Int) (w : World) (hD : Rd2 w D wd) :
    Calls Try.prog 33 #[.agg #[.int .i64 m.I, .int .i64 m.T, .int .i64 m.S, .slice A m.nx.length c, .slice B m.out.length d, .slice C m.set.length e], .slice D wd.length f, .int .i64 en] w (TmsP m.I wd en w) := by
  have HD := Lib.hid hD
  have ml := hD.1
  clear hD
  go_enter Try.func33, Try.ntmps33
  go_upto_region 1 with fail
  generalize hwb : World.alloc _ _ = w0
  have BX : Hid (BoxT w0 w.heap.size m A c B d C e) := Lib.hid (boxT (by rw [← hwb]; exact Blk.new _ _ _))
  have HBL : Hid (Below w.heap.size w w0) := Lib.hid (by rw [← hwb]; exact (Below.refl _ _).alloc (Nat.le_refl _) _)
  clear hwb
  by_cases hl : 1024 < wd.length
  · have HE := Lib.hid (word_long (I := m.I) (en := en) hl)
    have hl' : (1024 : Int) < wd.length := by omega
    go_wp2
    go_ret2
    exact ⟨⟨_, by rw [HE.out]; rfl, fun h => by rw [HE.out] at h; cases h⟩, HBL.out⟩
  have hl' : ¬ (1024 : Int) < wd.length := by omega
  go_wp2_with fail
  clear hl'
  go_loopw [8, 9, 10] (fun b a i wr => ∃ (j : Nat), j ≤ wd.length ∧ i = .int .i64 j ∧ b = .int .i64 (Tm.nowT wd j) ∧ Hid (wr.ownsRow w0.heap.size 3 1 a j ((timesL wd j).map (.int .i64))) ∧ Hid (Below w0.heap.size w0 wr) ∧ Hid (∀ t, t < j → Tm.tickE m.I wd t = 0) ∧ Hid (0 ≤ Tm.nowT wd j ∧ Tm.nowT wd j ≤ 1125899906842624)) (fun _ _ i _ => wd.length - (intOf i).toNat)
  case atStart => exact ⟨0, Nat.zero_le _, rfl, rfl, Lib.hid (World.ownsRow_nil _ _ _ _), Lib.hid (Below.refl _ _), Lib.hid (fun t ht => by omega), Lib.hid (by show (0 : Int) ≤ 0 ∧ (0 : Int) ≤ _; omega)⟩
  case round =>
    obtain ⟨j, hj, rfl, rfl, HO, HB, HZ, HN⟩ := hrel
    have hb0 := HN.out.1
    have hb1 := HN.out.2
    have HBW := Lib.hid (below_seq HBL.out HB.out)
    by_cases hjl : j < wd.length
    rotate_left
    · obtain rfl : j = wd.length := by omega
      have HE := Lib.hid (word_end (I := m.I) (en := en) hl HZ.out)
      generalize Tm.nowT wd wd.length = nw at *
      by_cases q1 : en < nw
      · have HE2 : Hid (Tm.wordE m.I wd en = 2) := Lib.hid (by rw [HE.out, if_pos (.inl q1)])
        go_wp2
        go_ret2
        exact ⟨⟨_, by rw [HE2.out]; rfl, fun h => by rw [HE2.out] at h; cases h⟩, HBW.out⟩
      by_cases q2 : 1125899906842624 < en
      · have HE2 : Hid (Tm.wordE m.I wd en = 2) := Lib.hid (by rw [HE.out, if_pos (.inr q2)])
        go_wp2
        go_ret2
        exact ⟨⟨_, by rw [HE2.out]; rfl, fun h => by rw [HE2.out] at h; cases h⟩, HBW.out⟩
      have HE2 : Hid (Tm.wordE m.I wd en = 0) := Lib.hid (by rw [HE.out, if_neg (fun h => h.elim q1 q2)])
      go_wp2
      go_ret2
      exact ⟨⟨_, by rw [HE2.out]; rfl, fun _ => own_mono HO.out HBL.out.size⟩, HBW.out⟩
    rename_i wr
    obtain ⟨ad, dl, z, rfl, hdz, c0, c1⟩ := (HD.out.keep (below_seq HBL.out HB.out)).at_ hjl
    have HT := Lib.hid (tick_d (I := m.I) hdz)
    have HNX := Lib.hid (now_d hdz)
    clear hdz
    replace c1 := cell_fld c1 (by decide)
    have t0 : wr.cell? ⟨w.heap.size, 0, none⟩ = some (.int .i64 m.I) := (BX.out.keep HB.out).c0
    have hbs : w0.heap.size ≤ wr.heap.size := HB.out.size
    generalize Tm.nowT wd j = nw at *
    have htp : Tm.top = 1125899906842624 := rfl
    rw [htp] at HT
    clear htp
    by_cases q1 : dl < 0
    · have HE := Lib.hid (word_tick (en := en) hl HZ.out hjl (show Tm.tickE m.I wd j = 2 by rw [HT.out, if_pos (.inl q1)]) (by decide))
      go_wp2
      go_ret2
      exact ⟨⟨_, by rw [HE.out]; rfl, fun h => by rw [HE.out] at h; cases h⟩, HBW.out⟩
    by_cases q2 : 1125899906842624 < dl
    · have HE := Lib.hid (word_tick (en := en) hl HZ.out hjl (show Tm.tickE m.I wd j = 2 by rw [HT.out, if_pos (.inr (.inl q2))]) (by decide))
      go_wp2
      go_ret2
      exact ⟨⟨_, by rw [HE.out]; rfl, fun h => by rw [HE.out] at h; cases h⟩, HBW.out⟩
    by_cases q3 : 1125899906842624 < nw + dl
    · have HE := Lib.hid (word_tick (en := en) hl HZ.out hjl (show Tm.tickE m.I wd j = 2 by rw [HT.out, if_pos (.inr (.inr (by omega)))]) (by decide))
      go_wp2
      go_ret2
      exact ⟨⟨_, by rw [HE.out]; rfl, fun h => by rw [HE.out] at h; cases h⟩, HBW.out⟩
    replace HT : Hid (Tm.tickE m.I wd j = if z < 0 ∨ m.I ≤ z then 1 else 0) := Lib.hid (by rw [HT.out, if_neg (by omega)])
    by_cases q4 : z < 0
    · have HE := Lib.hid (word_tick (en := en) hl HZ.out hjl (show Tm.tickE m.I wd j = 1 by rw [HT.out, if_pos (.inl q4)]) (by decide))
      have d4 : decide (z < 0) = true := by simpa using q4
      go_upto_region 10 with fail
      go_quiet (fail)
      go_wp2
      go_ret2
      first | exact ⟨⟨_, by rw [HE.out]; rfl, fun h => by rw [HE.out] at h; cases h⟩, below_drewN' HBW.out _⟩ | exact ⟨⟨_, by rw [HE.out]; rfl, fun h => by rw [HE.out] at h; cases h⟩, below_drewN' (below_drewN' HBW.out _) _⟩
    by_cases q5 : m.I ≤ z
    · have HE := Lib.hid (word_tick (en := en) hl HZ.out hjl (show Tm.tickE m.I wd j = 1 by rw [HT.out, if_pos (.inr q5)]) (by decide))
      have d4 : decide (z < 0) = false := by simpa using q4
      have d5 : decide (m.I ≤ z) = true := by simpa using q5
      go_upto_region 10 with fail
      go_quiet (fail)
      go_wp2
      go_ret2
      first | exact ⟨⟨_, by rw [HE.out]; rfl, fun h => by rw [HE.out] at h; cases h⟩, below_drewN' HBW.out _⟩ | exact ⟨⟨_, by rw [HE.out]; rfl, fun h => by rw [HE.out] at h; cases h⟩, below_drewN' (below_drewN' HBW.out _) _⟩
    have HT0 : Hid (Tm.tickE m.I wd j = 0) := Lib.hid (by rw [HT.out, if_neg (by omega)])
    have d4 : decide (z < 0) = false := by simpa using q4
    have d5 : decide (m.I ≤ z) = false := by simpa using q5
    go_upto_region 10 with fail
    go_quiet (fail)
    clear t0 d4 d5
    generalize hwd : World.drewN _ _ = wc
    have hbd : Below wr.heap.size wr wc := by rw [← hwd]; exact below_drewN' (Below.refl _ _) _
    replace HO := Lib.hid (own_keep HO.out hbd)
    replace HB := Lib.hid (below_seq HB.out hbd)
    replace c0 := keep_cell hbd c0
    replace hbs : w0.heap.size ≤ wc.heap.size := HB.out.size
    clear hwd hbd
    go_upto_region 13 with fail
    clear c0 c1
    go_wp2_with (at_builtin; refine app1 rfl (.tmp 67) (.tmp 69) 59 3 _ _ rfl Try.underlying59 info3 rfl (by decide) rfl rfl HO.out rfl (by omega) hbs ?_; intro v' w1 hown' hb' hsz')
    have HO1 := Lib.hid hown'
    have HB1 := Lib.hid (hb' w0.heap.size w0 (Nat.le_refl _) HB.out)
    clear hown' hb'
    go_roundw
    case rel =>
      refine ⟨j + 1, by omega, by go_num, by rw [HNX.out], Lib.hid ?_, Lib.hid ?_, Lib.hid (fun t ht => ?_), Lib.hid (by rw [HNX.out]; omega)⟩
      · rw [timesL_succ, HNX.out, List.map_append]; exact HO1.out
      · exact HB1.out
      · by_cases e : t = j
        · rw [e]; exact HT0.out
        · exact HZ.out t (by omega)
    case measure => simp [intOf] <;> omega
end Go.Proofs.Ytpcoddbkcelaoaa
