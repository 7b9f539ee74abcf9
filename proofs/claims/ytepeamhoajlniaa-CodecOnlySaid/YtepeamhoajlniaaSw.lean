/- SameWords of equal lists, Great; the examples of chapter 05 hold. -/
import Derived.Test.YtepeamhoajlniaaOpR
import Derived.Test.YtepeamhoajlniaaSame
namespace Go.Proofs.Ytepeamhoajlniaa
open Go.RowKit

theorem quiet_add {P : Program} {f : FuncId} {args : Array Value} {w : World} {a n : Nat} {v : Value}
    (h : Calls P f args (w.drewN (a + n)) fun e w' => e = .returned v ∧ ∃ m, w' = (w.drewN (a + n)).drewN m) :
    Calls P f args (w.drewN (a + n)) fun e w'' => e = .returned v ∧ ∃ m, w'' = w.drewN (a + m) :=
  h.mono fun _ _ ⟨he, m, hm⟩ => ⟨he, n + m, by rw [hm, World.drewN_drewN, Nat.add_assoc]⟩
theorem same_yes {n : Nat} {A B : Option Addr} {c d : Nat} {xs : List Int} {w : World} (hn : xs.length = n) (ha : Rd w A xs) (hb : Rd w B xs) :
    Calls Try.prog 24 #[.slice A n c, .slice B n d] w fun e w' => e = .returned (.bool true) ∧ ∃ n, w' = w.drewN n := by
  subst hn
  refine (same_any A B c d xs xs w ha hb).mono fun e w' ⟨h1, h2⟩ => ⟨?_, h2⟩
  rw [h1]; unfold sameB; simp
set_option maxRecDepth 100000 in
set_option maxHeartbeats 1000000 in
theorem sameWords_yes (A B : Option Addr) (c d : Nat) (xss : List (List Int)) (w : World) (ha : RdM .i64 w A xss) (hb : RdM .i64 w B xss) :
    Calls Try.prog 25 #[.slice A xss.length c, .slice B xss.length d] w fun e w' => e = .returned (.bool true) ∧ ∃ n, w' = w.drewN n := by
  have mx := ha.1
  have b0 : ((xss.length : Int) != (xss.length : Int)) = false := by simp
  have HA := Lib.hid ha
  have HB := Lib.hid hb
  clear ha hb
  go_enter Try.func25, Try.ntmps25
  go_wp2_with fail
  go_loopw [5] (fun i wr => ∃ j m : Nat, j ≤ xss.length ∧ i = .int .i64 j ∧ wr = w.drewN m) (fun i _ => xss.length - (intOf i).toNat)
  case atStart => exact ⟨0, 0, Nat.zero_le _, rfl, rfl⟩
  case round =>
    obtain ⟨j, m, hj, rfl, rfl⟩ := hrel
    by_cases h : j < xss.length
    · obtain ⟨ad, C, e, xs, rfl, hx, cx, rx⟩ := HA.out.at_ h
      obtain ⟨ad2, D, f, ys, rfl, hy, cy, ry⟩ := HB.out.at_ h
      obtain rfl : xs = ys := hx.symm.trans hy
      have HS := Lib.hid (fun (n : Nat) => same_yes (c := e) (d := f) (n := xs.length) (w := w.drewN n) rfl (rx.drewN n) (ry.drewN n))
      clear hx hy rx ry
      go_wp2_with fail
      go_quiet ((go_at_call 24; exact quiet_add (HS.out _)))
      go_wp2_with fail
      go_roundw
      case rel => exact ⟨j + 1, _, by omega, by go_num, rfl⟩
      case measure => simp [intOf]; omega
    · obtain rfl : j = xss.length := by omega
      go_wp2_with fail
      go_ret
      exact ⟨rfl, _, rfl⟩
theorem sameWords_yes' {n : Nat} {A B : Option Addr} {c d : Nat} {xss : List (List Int)} {w : World} (hn : xss.length = n) (ha : RdM .i64 w A xss) (hb : RdM .i64 w B xss) :
    Calls Try.prog 25 #[.slice A n c, .slice B n d] w fun e w' => e = .returned (.bool true) ∧ ∃ n, w' = w.drewN n := by
  subst hn
  exact sameWords_yes A B c d xss w ha hb
/-- what Great answers -/
def greatB (l : List (List Int)) (a b : Nat) : Bool := decide (¬ (l.length ≤ a ∧ ∀ x ∈ l, x.length ≤ b))
set_option maxRecDepth 100000 in
set_option maxHeartbeats 1000000 in
theorem great_any (A : Option Addr) (c : Nat) (xss : List (List Int)) (a b : Nat) (w : World) (ha : RdM .i64 w A xss) (h1 : a ≤ 1000) :
    Calls Try.prog 15 #[.slice A xss.length c, .int .i64 a, .int .i64 b] w fun e w' => e = .returned (.bool (greatB xss a b)) ∧ w = w' := by
  have mx := ha.1
  have HA := Lib.hid ha
  clear ha
  go_enter Try.func15, Try.ntmps15
  go_wp2_with fail
  go_loop [7] (fun i => ∃ j : Nat, j ≤ xss.length ∧ j ≤ a + 1 ∧ i = .int .i64 j ∧ Hid (∀ x ∈ xss.take j, x.length ≤ b)) (fun i => xss.length - (intOf i).toNat)
  case atStart => exact ⟨0, Nat.zero_le _, Nat.zero_le _, rfl, Lib.hid (by simp)⟩
  case round =>
    obtain ⟨j, hj, hja, rfl, HT⟩ := hrel
    by_cases h : j < xss.length
    · by_cases hja2 : j ≤ a
      · obtain ⟨ad, C, e, xs, rfl, hx, cx, rx⟩ := HA.out.at_ h
        have hget : xss[j]? = some xs := by rw [List.getElem?_eq_getElem h]; rw [List.getD_eq_getElem?_getD, List.getElem?_eq_getElem h] at hx; simpa using hx
        have HG := Lib.hid hget
        have ml := rx.1
        clear hx rx hget
        have hi : (j : Int) ≤ a := by omega
        by_cases hb : b < xs.length
        · have hb' : (b : Int) < xs.length := by omega
          have hd : greatB xss a b = true := by
            unfold greatB
            simp only [decide_eq_true_eq]
            intro hh
            have := hh.2 xs (List.mem_of_getElem? HG.out)
            omega
          have HD := Lib.hid hd
          clear hd
          go_wp2_with fail
          go_ret
          exact ⟨by rw [HD.out]; rfl, rfl⟩
        · have hb' : ¬ (b : Int) < xs.length := by omega
          go_wp2_with fail
          go_round
          case rel =>
            refine ⟨j + 1, by omega, by omega, by go_num, Lib.hid fun x hx => ?_⟩
            rw [List.take_add_one, HG.out, List.mem_append] at hx
            rcases hx with hx | hx
            · exact HT.out x hx
            · simp at hx; subst hx; omega
          case measure => simp [intOf]; omega
      · have hi : ¬ (j : Int) ≤ a := by omega
        have hgt : (a : Int) < xss.length := by omega
        have hd : greatB xss a b = true := by
          unfold greatB
          simp only [decide_eq_true_eq]
          intro hh
          omega
        have HD := Lib.hid hd
        clear hd
        go_wp2_with fail
        go_ret
        exact ⟨by rw [HD.out]; simp, rfl⟩
    · obtain rfl : j = xss.length := by omega
      have hd : greatB xss a b = decide (a < xss.length) := by
        unfold greatB
        have h0 := HT.out
        rw [List.take_length] at h0
        rw [Bool.eq_iff_iff]
        simp only [decide_eq_true_eq]
        constructor
        · intro hh
          by_cases h3 : xss.length ≤ a
          · exact absurd ⟨h3, h0⟩ hh
          · omega
        · intro hh h4; omega
      have HD := Lib.hid hd
      clear hd
      go_wp2_with fail
      go_ret
      exact ⟨by rw [HD.out]; rfl, rfl⟩
end Go.Proofs.Ytepeamhoajlniaa
