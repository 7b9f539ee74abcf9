/- The walks of SameBytes, slices.Equal, slices.Clone and join. -/
import Derived.Test.YtepeamhoajlniaaSea
namespace Go.Proofs.Ytepeamhoajlniaa
open Go.RowKit

def sameBy (bs cs : List Nat) : Bool := decide (bs = cs)
theorem RdB.noneNil {w : World} {c : Nat} {bs : List Nat} (h : RdB w none c bs) : bs = [] := by
  rcases Nat.eq_zero_or_pos bs.length with h0 | h0
  · exact List.eq_nil_of_length_eq_zero h0
  · obtain ⟨ad, e, _⟩ := h.2.2 h0; cases e
set_option maxRecDepth 100000 in
theorem sameBytes_any (A B : Option Addr) (c d : Nat) (bs cs : List Nat) (w : World) (h : RdB w A c bs) (k : RdB w B d cs) (hb : ∀ x ∈ bs, x < 256) (hc : ∀ x ∈ cs, x < 256) :
    Calls Try.prog 12 #[.slice A bs.length c, .slice B cs.length d] w fun e w' => e = .returned (.bool (sameBy bs cs)) ∧ w = w' := by
  have t1 := run_text (P := Try.prog) 22 5 9 Try.underlying22 Try.underlying5 Try.underlying9 h (Below.refl _ _)
  have t2 := run_text (P := Try.prog) 22 5 9 Try.underlying22 Try.underlying5 Try.underlying9 k (Below.refl _ _)
  have m1 := h.len
  have m2 := k.len
  have HI := Lib.hid (fun e => text_inj hb hc e)
  clear h k hb hc
  go_enter Try.func12, Try.ntmps12
  go_wp2_with fail
  go_ret
  refine ⟨ret_b ?_, rfl⟩
  unfold sameBy
  rw [Bool.eq_iff_iff, beq_iff_eq, decide_eq_true_iff]
  constructor
  · intro e
    rw [ByteArray.toList_eq, ByteArray.toList_eq] at e
    exact HI.out (congrArg ByteArray.mk (Array.toList_inj.1 e))
  · rintro rfl; rfl
set_option maxRecDepth 100000 in
set_option maxHeartbeats 1000000 in
theorem equal_any (A B : Option Addr) (c d : Nat) (bs cs : List Nat) (w : World) (h : RdB w A c bs) (k : RdB w B d cs) :
    Calls Try.prog 41 #[.slice A bs.length c, .slice B cs.length d] w fun e w' => e = .returned (.bool (sameBy bs cs)) ∧ ∃ n, w' = w.drewN n := by
  have m1 := h.len
  have m2 := k.len
  by_cases hl : bs.length = cs.length
  · have hb1 : ((bs.length : Int) != (cs.length : Int)) = false := by simp [hl]
    have HL := Lib.hid hl
    have HB := Lib.hid h
    have HC := Lib.hid k
    have hle : bs.length ≤ cs.length := by omega
    clear hl h k
    go_enter Try.func41, Try.ntmps41
    go_wp2_with fail
    go_loopw [13] (fun i wr => ∃ j n : Nat, j ≤ bs.length ∧ i = .int .i64 j ∧ Hid (bs.take j = cs.take j) ∧ wr = w.drewN n) (fun i _ => bs.length - (intOf i).toNat)
    case atStart => exact ⟨0, 0, Nat.zero_le _, rfl, rfl, rfl⟩
    case round =>
      obtain ⟨j, n, hj, rfl, HT, rfl⟩ := hrel
      by_cases hlt : j < bs.length
      · obtain ⟨a, x, rfl, hx, cx⟩ := HB.out.at_ (i := j) hlt
        obtain ⟨b, y, rfl, hy, cy⟩ := HC.out.at_ (i := j) (by omega)
        have hlt2 : j < cs.length := by omega
        have gx : bs[j]? = some x := by rw [List.getElem?_eq_getElem hlt]; rw [List.getD_eq_getElem?_getD, List.getElem?_eq_getElem hlt] at hx; simpa using hx
        have gy : cs[j]? = some y := by rw [List.getElem?_eq_getElem hlt2]; rw [List.getD_eq_getElem?_getD, List.getElem?_eq_getElem hlt2] at hy; simpa using hy
        have GX := Lib.hid gx
        have GY := Lib.hid gy
        clear hx hy gx gy
        by_cases hxy : x = y
        · subst hxy
          go_wp2_with fail
          go_quiet (fail)
          go_wp2_with fail
          go_roundw
          case rel =>
            refine ⟨j + 1, _, by omega, by go_num, ?_, rfl⟩
            have h1 := GX.out
            have h2 := GY.out
            exact Lib.hid (by rw [List.take_add_one, List.take_add_one, HT.out, h1, h2])
          case measure => simp [intOf]; omega
        · have hb3 : ((x : Int) != (y : Int)) = true := by simp; omega
          have hd : sameBy bs cs = false := by
            unfold sameBy
            simp only [decide_eq_false_iff_not]
            rintro rfl
            have h1 := GX.out
            rw [GY.out] at h1
            injection h1 with h1
            exact hxy h1.symm
          have HD := Lib.hid hd
          clear hd hxy
          go_wp2_with fail
          go_quiet (fail)
          go_wp2_with fail
          go_ret
          exact ⟨by rw [HD.out]; rfl, dd _ _ _⟩
      · obtain rfl : j = bs.length := by omega
        have hd : sameBy bs cs = true := by
          have h1 := HT.out
          rw [List.take_length, HL.out, List.take_length] at h1
          unfold sameBy
          simpa using h1
        have HD := Lib.hid hd
        clear hd
        go_wp2_with fail
        go_ret
        exact ⟨by rw [HD.out]; rfl, _, rfl⟩
  · have hb1 : ((bs.length : Int) != (cs.length : Int)) = true := by simp; omega
    have hd : sameBy bs cs = false := by
      unfold sameBy
      simp only [decide_eq_false_iff_not]
      rintro rfl
      exact hl rfl
    have HD := Lib.hid hd
    clear hl hd h k
    go_enter Try.func41, Try.ntmps41
    go_wp2_with fail
    go_ret
    exact ⟨by rw [HD.out]; rfl, 0, rfl⟩
set_option maxHeartbeats 1000000 in
theorem clone_p (A : Option Addr) (c : Nat) (bs : List Nat) (w : World) (h : RdB w A c bs) (hl : bs.length ≤ 1000000) :
    Calls Try.prog 43 #[.slice A bs.length c] w (PutR bs w) := by
  rcases A with _ | ad
  · have := h.noneNil
    subst this
    have hq := fun w => Lib.run_eql_slice_nil (P := Try.prog) w 22 5 none 0 c 0 0 Try.underlying22
    go_enter Try.func43, Try.ntmps43
    go_wp2_with fail
    go_ret
    exact ⟨none, 0, rfl, World.ownsRow_nil _ _ _ _, Below.refl _ _⟩
  · have hq := fun w => Lib.run_eql_slice_nil (P := Try.prog) w 22 5 (some ad) bs.length c 0 0 Try.underlying22
    have hbel1 : Below w.heap.size w (w.alloc (.cells #[] 5)) := (Below.refl _ _).alloc (Nat.le_refl _) _
    have hbz1 := hbel1.size
    have HR := Lib.hid h
    have HO1 := Lib.hid (own_none (w := w) (base := w.heap.size) (Nat.le_refl _))
    clear h
    go_enter Try.func43, Try.ntmps43
    go_wp2_with (at_builtin; refine appN rfl (.tmp 5) (.tmp 6) 22 5 _ _ rfl Try.underlying22 info5 rfl (by decide) rfl rfl (byv_len _) HO1.out (HR.out.keep hbel1).vals (byv_one _) (by omega) hbz1 ?_; intro v3 w3 hown3 hb3 hsz3; (rw [Nat.zero_add] at hown3); obtain ⟨E3, g3, rfl⟩ := own_slice hown3; have HO3 := Lib.hid hown3; have HB3 := Lib.hid (hb3 _ _ (Nat.le_refl _) hbel1); clear hown3 hb3)
    go_ret
    exact ⟨E3, g3, rfl, HO3.out, HB3.out⟩
set_option maxHeartbeats 1000000 in
theorem join_p (A B : Option Addr) (c d : Nat) (bs cs : List Nat) (w : World) (h : RdB w A c bs) (k : RdB w B d cs) (hl : bs.length ≤ 1000000) (kl : cs.length ≤ 1000000) :
    Calls Try.prog 26 #[.slice A bs.length c, .slice B cs.length d] w (PutR (bs ++ cs) w) := by
  have hbel1 : Below w.heap.size w (w.alloc (.cells #[] 5)) := (Below.refl _ _).alloc (Nat.le_refl _) _
  have hbz1 := hbel1.size
  have HR := Lib.hid h
  have HK := Lib.hid k
  have HO1 := Lib.hid (own_none (w := w) (base := w.heap.size) (Nat.le_refl _))
  clear h k
  go_enter Try.func26, Try.ntmps26
  go_wp2_with (first | (at_builtin; refine appN rfl (.tmp 5) (.tmp 6) 22 5 _ _ rfl Try.underlying22 info5 rfl (by decide) rfl rfl (byv_len _) HO1.out (HR.out.keep hbel1).vals (byv_one _) (by omega) hbz1 ?_; intro v3 w3 hown3 hb3 hsz3; (rw [Nat.zero_add] at hown3); obtain ⟨E3, g3, rfl⟩ := own_slice hown3; have HO3 := Lib.hid hown3; have HB3 := Lib.hid (hb3 _ _ (Nat.le_refl _) hbel1); clear hown3 hb3) | (at_builtin; refine appN rfl (.tmp 7) (.tmp 8) 22 5 _ _ rfl Try.underlying22 info5 rfl (by decide) rfl rfl (byv_len _) HO3.out (HK.out.keep HB3.out).vals (byv_one _) (by omega) hsz3 ?_; intro v4 w4 hown4 hb4 hsz4; obtain ⟨E4, g4, rfl⟩ := own_slice hown4; have HO4 := Lib.hid hown4; have HB4 := Lib.hid (hb4 _ _ (Nat.le_refl _) HB3.out); clear hown4 hb4))
  go_ret
  refine ⟨E4, g4, ?_, ?_, HB4.out⟩
  · rw [List.length_append]; rfl
  · rw [List.length_append, byv_app]; exact HO4.out
end Go.Proofs.Ytepeamhoajlniaa
