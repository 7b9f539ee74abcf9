/- Devices: costs and Fits of the reference; slices.Clone and rows. -/
import Derived.Test.YtpoppadihbgbgaaDev
import Derived.Laws.OwnMore
import Derived.Laws.MakeOwn
namespace Go.Proofs.Ytpoppadihbgbgaa
open Go.RowKit

theorem info3 : (Try.prog.info? 3).map (fun i => (i.zero, i.size, i.bytes)) = some (some (.int .i64 0), 1, 8) := by kernel_rfl
theorem info25 : (Try.prog.info? 25).map (fun i => (i.zero, i.size, i.bytes)) = some (some (.slice none 0 0), 1, 24) := by kernel_rfl
def goodC (lat : List Int) (rs : Int) : Bool := !badC lat rs
theorem wrg_lo {n : Int} (h : n < 0) : wrg n = true := outB_yes (.inl h)
theorem wrg_hi {n : Int} (h : 1048576 < n) : wrg n = true := outB_yes (.inr h)
theorem wrg_ok {n : Int} (h1 : 0 ≤ n) (h2 : n ≤ 1048576) : wrg n = false := outB_no h1 h2
set_option maxRecDepth 100000 in
set_option maxHeartbeats 1000000 in
theorem costs_r (A : Option Addr) (c : Nat) (lat : List Int) (rs : Int) (w : World) (h : Rd w A lat) :
    Calls Try.prog 39 #[.agg #[.slice A lat.length c, .int .i64 rs]] w fun e w' => e = .returned (.bool (goodC lat rs)) ∧ Below w.heap.size w w' := by
  have hbx : Below w.heap.size w (w.alloc (.cells #[.slice A lat.length c, .int .i64 rs] 27)) := (Below.refl _ _).alloc (Nat.le_refl _) _
  have hr := Lib.hid (h.keep hbx)
  have hm := h.1
  clear h
  go_enter Try.func39, Try.ntmps39
  go_wp2_with fail
  go_loop [3] (fun i => ∃ j : Nat, j ≤ lat.length ∧ i = .int .i64 j ∧ Hid (∀ q, q < j → wrg (lat.getD q 0) = false)) (fun i => lat.length - (intOf i).toNat)
  case atStart => exact ⟨0, Nat.zero_le _, rfl, Lib.hid (fun q hq => by omega)⟩
  case round =>
    obtain ⟨j, hj, rfl, HG⟩ := hrel
    by_cases hjl : j < lat.length
    · obtain ⟨ad, x, rfl, hx, cx⟩ := hr.out.at_ hjl
      have hmem : x ∈ lat := by rw [← hx, List.getD_eq_getElem?_getD, List.getElem?_eq_getElem hjl]; exact List.getElem_mem _
      have HX := Lib.hid hx
      clear hx
      by_cases h1 : x < 0
      · have HD : Hid (goodC lat rs = false) := Lib.hid (by unfold goodC badC; rw [List.any_eq_true.2 ⟨x, hmem, wrg_lo h1⟩]; simp)
        clear hmem
        go_wp2_with fail
        go_ret
        exact ⟨by rw [HD.out]; rfl, hbx⟩
      · by_cases h2 : 1048576 < x
        · have HD : Hid (goodC lat rs = false) := Lib.hid (by unfold goodC badC; rw [List.any_eq_true.2 ⟨x, hmem, wrg_hi h2⟩]; simp)
          clear hmem
          go_wp2_with fail
          go_ret
          exact ⟨by rw [HD.out]; rfl, hbx⟩
        · clear hmem
          go_wp2_with fail
          go_round
          case rel =>
            refine ⟨j + 1, by omega, by go_num, Lib.hid fun q hq => ?_⟩
            by_cases e : q = j
            · subst e; rw [HX.out]; exact wrg_ok (by omega) (by omega)
            · exact HG.out q (by omega)
          case measure => simp [intOf]; omega
    · have hall : lat.any wrg = false := by
        rw [List.any_eq_false]
        intro x hx
        obtain ⟨q, hq, rfl⟩ := List.getElem_of_mem hx
        have := HG.out q (by omega)
        rw [List.getD_eq_getElem?_getD, List.getElem?_eq_getElem hq] at this
        simpa using this
      have HA := Lib.hid hall
      clear hall
      by_cases h1 : rs < 0
      · have HD : Hid (goodC lat rs = false) := Lib.hid (by unfold goodC badC; rw [wrg_lo h1]; simp)
        go_wp2_with fail
        go_ret
        exact ⟨by rw [HD.out]; rfl, hbx⟩
      · by_cases h2 : 1048576 < rs
        · have HD : Hid (goodC lat rs = false) := Lib.hid (by unfold goodC badC; rw [wrg_hi h2]; simp)
          have hd : decide (rs ≤ 1048576) = false := by simpa using h2
          go_wp2_with fail
          go_ret
          exact ⟨by rw [HD.out]; rfl, hbx⟩
        · have HD : Hid (goodC lat rs = true) := Lib.hid (by unfold goodC badC; rw [wrg_ok (by omega) (by omega), HA.out]; rfl)
          go_wp2_with fail
          go_ret
          exact ⟨by rw [HD.out]; rfl, hbx⟩
/-- the error of a latency for k inputs -/
def fitsE (lat : List Int) (rs k : Int) : Int := if (lat.length : Int) ≠ k then 1 else costE lat rs
theorem fits_r (A : Option Addr) (c : Nat) (lat : List Int) (rs k : Int) (w : World) (h : Rd w A lat) :
    Calls Try.prog 44 #[.agg #[.slice A lat.length c, .int .i64 rs], .int .i64 k] w fun e w' => e = .returned (.int .i64 (fitsE lat rs k)) ∧ Below w.heap.size w w' := by
  have hbx : Below w.heap.size w (w.alloc (.cells #[.slice A lat.length c, .int .i64 rs] 27)) := (Below.refl _ _).alloc (Nat.le_refl _) _
  have HC := Lib.hid (costs_r A c lat rs _ (h.keep hbx))
  have hm := h.1
  clear h
  by_cases hk : (lat.length : Int) = k
  · have hb : ((lat.length : Int) != k) = false := by simp [hk]
    by_cases hg : badC lat rs = true
    · have HD : Hid (fitsE lat rs k = 2) := Lib.hid (by unfold fitsE costE; rw [if_neg (not_not_intro hk), if_pos hg])
      have HG : Hid (goodC lat rs = false) := Lib.hid (by unfold goodC; rw [hg]; rfl)
      clear hk hg
      go_enter Try.func44, Try.ntmps44
      go_wp2_with fail
      refine HC.out.mono ?_
      rintro e w' ⟨rfl, hb1⟩
      rw [HG.out]
      go_wp2_with fail
      go_ret
      exact ⟨by rw [HD.out]; rfl, below_seq hbx hb1⟩
    · have hg : badC lat rs = false := by simpa using hg
      have HD : Hid (fitsE lat rs k = 0) := Lib.hid (by unfold fitsE costE; rw [if_neg (not_not_intro hk), if_neg (by rw [hg]; simp)])
      have HG : Hid (goodC lat rs = true) := Lib.hid (by unfold goodC; rw [hg]; rfl)
      clear hk hg
      go_enter Try.func44, Try.ntmps44
      go_wp2_with fail
      refine HC.out.mono ?_
      rintro e w' ⟨rfl, hb1⟩
      rw [HG.out]
      go_wp2_with fail
      go_ret
      exact ⟨by rw [HD.out]; rfl, below_seq hbx hb1⟩
  · have hb : ((lat.length : Int) != k) = true := by simpa using hk
    have HD : Hid (fitsE lat rs k = 1) := Lib.hid (by unfold fitsE; rw [if_pos hk])
    clear hk
    go_enter Try.func44, Try.ntmps44
    go_wp2_with fail
    go_ret
    exact ⟨by rw [HD.out]; rfl, hbx⟩
/-- a list of the call's own -/
def OwnI (xs : List Int) (w : World) (e : Ending) (w' : World) : Prop := ∃ A c, e = .returned (.slice A xs.length c) ∧ w'.ownsRow w.heap.size 3 1 (.slice A xs.length c) xs.length (xs.map (.int .i64)) ∧ Below w.heap.size w w'
theorem own_none3 {w : World} {base : Nat} (hb : base ≤ w.heap.size) : (w.alloc (.cells #[] 3)).ownsRow base 3 1 (.slice (some ⟨w.heap.size, 0, none⟩) 0 0) 0 (([] : List Int).map (.int .i64)) :=
  World.ownsRow_lit w #[] 0 hb (by unfold maxLen; omega) rfl
set_option maxHeartbeats 1000000 in
theorem clone_i (A : Option Addr) (c : Nat) (xs : List Int) (w : World) (h : Rd w A xs) (hl : xs.length ≤ 1000000) :
    Calls Try.prog 49 #[.slice A xs.length c] w (OwnI xs w) := by
  rcases A with _ | ad
  · have hx : xs = [] := by
      rcases Nat.eq_zero_or_pos xs.length with h0 | h0
      · exact List.eq_nil_of_length_eq_zero h0
      · obtain ⟨ad, e, _⟩ := h.2 h0; cases e
    subst hx
    have hq := fun w => Lib.run_eql_slice_nil (P := Try.prog) w 25 3 none 0 c 0 0 Try.underlying25
    go_enter Try.func49, Try.ntmps49
    go_wp2_with fail
    go_ret
    exact ⟨none, 0, rfl, World.ownsRow_nil _ _ _ _, Below.refl _ _⟩
  · have hq := fun w => Lib.run_eql_slice_nil (P := Try.prog) w 25 3 (some ad) xs.length c 0 0 Try.underlying25
    have hbel1 : Below w.heap.size w (w.alloc (.cells #[] 3)) := (Below.refl _ _).alloc (Nat.le_refl _) _
    have hbz1 := hbel1.size
    have HR := Lib.hid h
    have HO1 := Lib.hid (own_none3 (w := w) (base := w.heap.size) (Nat.le_refl _))
    clear h
    go_enter Try.func49, Try.ntmps49
    go_wp2_with (at_builtin; refine appN rfl (.tmp 5) (.tmp 6) 25 3 _ _ rfl Try.underlying25 info3 rfl (by decide) rfl rfl (List.length_map _) HO1.out (HR.out.keep hbel1).vals (ints_one _ _) (by omega) hbz1 ?_; intro v3 w3 hown3 hb3 hsz3; (rw [Nat.zero_add] at hown3); obtain ⟨E3, g3, rfl⟩ := own_slice hown3; have HO3 := Lib.hid hown3; have HB3 := Lib.hid (hb3 _ _ (Nat.le_refl _) hbel1); clear hown3 hb3)
    go_ret
    exact ⟨E3, g3, rfl, HO3.out, HB3.out⟩
end Go.Proofs.Ytpoppadihbgbgaa
