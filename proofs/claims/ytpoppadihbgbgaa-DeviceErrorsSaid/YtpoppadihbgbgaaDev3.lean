/- Devices: rows. -/
import Derived.Test.YtpoppadihbgbgaaDev2
namespace Go.Proofs.Ytpoppadihbgbgaa
open Go.RowKit

theorem run_make0 {P : Program} (t e : TypeId) (i : TypeInfo) (z : Value) (ht : P.underlying t = some (.slice e)) (hi : P.info? e = some i) (hz : i.zero = some z)
    (c : Nat) (hbytes : i.bytes * c ≤ 281474976710656) (h63 : c ≤ 9223372036854775807) (w : World) :
    (Instr.makeSlice t (.int .i64 0) (.int .i64 (c : Int))).run P w = .ok (.slice (some ⟨w.heap.size, 0, none⟩) 0 c) (w.alloc (.cells (madeCells z.cells (c * i.size)) e)) := by
  have hb : (i.bytes : Int) * (c : Int) ≤ 281474976710656 := by
    have h : ((i.bytes * c : Nat) : Int) ≤ 281474976710656 := by omega
    rwa [Int.natCast_mul] at h
  have hr := run_make (P := P) w t e i z ht hi hz .i64 .i64 (0 : Nat) c (by omega) (by omega) hb (by omega)
  simp only [Int.toNat_natCast] at hr
  exact hr
/-- a list of lists of the call's own -/
def OwnR (xss : List (List Int)) (w : World) (e : Ending) (w' : World) : Prop := ∃ A c, e = .returned (.slice A xss.length c) ∧ OwnM w' w.heap.size 25 3 (.slice A xss.length c) xss ∧ Below w.heap.size w w'
set_option maxRecDepth 100000 in
set_option maxHeartbeats 2000000 in
theorem rows_p (A : Option Addr) (c : Nat) (xss : List (List Int)) (w : World) (h : RdM .i64 w A xss) (hl : xss.length ≤ 10000) (hr : ∀ i, i < xss.length → (xss.getD i []).length ≤ 1000000) :
    Calls Try.prog 48 #[.slice A xss.length c] w (OwnR xss w) := by
  obtain ⟨i25, hi, hz0, hz1, hz2⟩ := info_parts info25
  have hmk := run_make0 (P := Try.prog) 22 25 i25 (.slice none 0 0) Try.underlying22 hi hz0 xss.length (by rw [hz2]; omega) (by omega)
  rw [hz1, Nat.mul_one] at hmk
  have hm := h.1
  have HRow := Lib.hid hr
  have HO := Lib.hid (World.ownsRow_made (e := 25) (size := 1) (base := w.heap.size) w (madeCells #[.slice none 0 0] xss.length) xss.length (Nat.le_refl _) (by unfold maxLen; omega) (by simp [madeCells]))
  have hbel0 : Below w.heap.size w (w.alloc (.cells (madeCells #[.slice none 0 0] xss.length) 25)) := (Below.refl _ _).alloc (Nat.le_refl _) _
  have HR := Lib.hid h
  clear h hr
  go_enter Try.func48, Try.ntmps48
  go_wp2_with fail
  go_loopw [3, 11] (fun l u wr => ∃ (B : Option Addr) (d : Nat) (acc : List (List Int)), u = .int .i64 (acc.length : Int) ∧ l = .slice B acc.length d ∧ acc.length ≤ xss.length ∧ Hid (acc = xss.take acc.length) ∧ Hid (OwnM wr w.heap.size 25 3 (.slice B acc.length d) acc) ∧ Below w.heap.size w wr) (fun _ u _ => xss.length - (intOf u).toNat)
  case atStart => exact ⟨_, _, [], rfl, rfl, Nat.zero_le _, rfl, ⟨[], HO.out, by simp⟩, hbel0⟩
  case round =>
    obtain ⟨B, d, acc, rfl, rfl, hj, HE, HA, hbel⟩ := hrel
    have hbz := hbel.size
    by_cases hjl : acc.length < xss.length
    · obtain ⟨ad, C, f, xs, rfl, hx, cx, hrx⟩ := (HR.out.keep hbel).at_ hjl
      have hxl : xs.length ≤ 1000000 := by rw [← hx]; exact HRow.out _ hjl
      have HC := Lib.hid (clone_i C f xs _ hrx hxl)
      have HX := Lib.hid hx
      clear hx hrx
      go_wp2_with fail
      refine HC.out.mono ?_
      rintro e w2 ⟨B2, d2, rfl, ho2, hb2⟩
      have hbel2 := hbel.trans (hb2.mono hbz)
      have HO2 := Lib.hid (HA.out.keep hb2)
      have HR2 := Lib.hid (own_mono ho2 hbz)
      have hbz2 := hbel2.size
      clear ho2 hb2 HC
      go_wp2_with (at_builtin; refine appM rfl (.tmp 15) (.tmp 18) 22 25 3 rfl Try.underlying22 info25 (by decide) rfl rfl HO2.out rfl HR2.out (by omega) hbz2 ?_; intro v' w4 hown' hb' hsz'; obtain ⟨E', g', rfl⟩ := hown'.slice; have HB4 := Lib.hid hb'; clear hb')
      go_roundw
      case rel =>
        refine ⟨E', g', acc ++ [xs], by simp, by simp, by simp; omega, ?_, Lib.hid hown', HB4.out _ _ (Nat.le_refl _) hbel2⟩
        have h1 : xss[acc.length]? = some xs := by
          have := HX.out
          rw [List.getD_eq_getElem?_getD, List.getElem?_eq_getElem hjl] at this
          rw [List.getElem?_eq_getElem hjl]; simpa using this
        have he := HE.out
        refine Lib.hid ?_
        rw [List.length_append, List.length_singleton, List.take_add_one, h1, ← he]; rfl
      case measure => simp [intOf]; omega
    · have he : acc = xss := by
        have h1 := HE.out
        rw [List.take_of_length_le (by omega)] at h1
        exact h1
      subst he
      go_wp2_with fail
      go_ret
      exact ⟨B, d, rfl, HA.out, hbel⟩
end Go.Proofs.Ytpoppadihbgbgaa
