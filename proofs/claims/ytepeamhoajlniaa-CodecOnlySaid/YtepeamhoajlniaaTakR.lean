/- The walk of TakeInt of the reference. -/
import Derived.Test.YtepeamhoajlniaaNum
namespace Go.Proofs.Ytepeamhoajlniaa
open Go.RowKit

theorem shl7r (v x : Nat) (h : 128 * v < 18446744073709551616) : bits .or .u64 ((v : Int) * 128) ((x : Int) % 128) = ((x % 128 + 128 * v : Nat) : Int) := by
  have e1 : (v : Int) * 128 = ((128 * v : Nat) : Int) := by omega
  have e2 : (x : Int) % 128 = ((x % 128 : Nat) : Int) := by omega
  rw [e1, e2, bits_or_u64_nat _ _ (by omega) (by omega)]
  have e := Nat.two_pow_add_eq_or_of_lt (b := x % 128) (i := 7) (by omega) v
  rw [← e]; congr 1; omega
def TakR (g : Cod.Got Int) (w : World) (e : Ending) (w' : World) : Prop := e = .returned (.tuple #[.int .i64 g.val, .int .i64 (g.size : Nat), .int .i64 g.err]) ∧ w = w'
set_option maxRecDepth 100000 in
set_option maxHeartbeats 4000000 in
theorem takeInt_r (A : Option Addr) (c : Nat) (bs : List Nat) (w : World) (h : RdB w A c bs) (hlt : ∀ x ∈ bs, x < 256) :
    Calls Try.prog 11 #[.slice A bs.length c] w (TakR (Cod.tk bs) w) := by
  have hm := h.len
  have hle := h.1
  have hlc := h.2.1
  have HI := Lib.hid (fun i (hi : i < Cod.lead 10 bs) => Cod.lead_hi 10 bs hi)
  have HLT := Lib.hid hlt
  have HR := Lib.hid h
  have l1 := Cod.lead_le 10 bs
  have l2 := Cod.lead_len 10 bs
  by_cases n10 : Cod.lead 10 bs = 10
  · rw [Cod.tk_syn n10]
    rw [n10] at HI l2
    clear n10 h hlt l1
    go_enter Try.func11, Try.ntmps11
    go_wp2_with fail
    go_loop [5] (fun i => ∃ k : Nat, k ≤ 10 ∧ i = .int .i64 k) (fun i => 10 - (intOf i).toNat)
    case atStart => exact ⟨0, Nat.zero_le _, rfl⟩
    case round =>
      obtain ⟨k, hk, rfl⟩ := hrel
      by_cases hkl : k < 10
      · obtain ⟨ad, x, rfl, hx, cx⟩ := HR.out.at_ (i := k) (by omega)
        have hg := HI.out k hkl
        rw [hx] at hg
        have hg' : ¬ (x : Int) < 128 := by omega
        clear hx hg
        go_wp2_with fail
        go_round
        case rel => exact ⟨k + 1, by omega, by go_num⟩
        case measure => simp [intOf]; omega
      · obtain rfl : k = 10 := by omega
        by_cases h10 : 10 < bs.length
        all_goals
            go_wp2_with fail
            go_ret3
            exact ⟨rfl, rfl⟩
  by_cases nlen : Cod.lead 10 bs = bs.length
  · rw [Cod.tk_trunc n10 nlen]
    rw [nlen] at HI l1 n10
    clear nlen h hlt l2
    have hb10 : ((bs.length : Int) == 10) = false := by simp only [beq_eq_false_iff_ne]; omega
    go_enter Try.func11, Try.ntmps11
    go_wp2_with fail
    go_loop [5] (fun i => ∃ k : Nat, k ≤ bs.length ∧ i = .int .i64 k) (fun i => bs.length - (intOf i).toNat)
    case atStart => exact ⟨0, Nat.zero_le _, rfl⟩
    case round =>
      obtain ⟨k, hk, rfl⟩ := hrel
      by_cases hkl : k < bs.length
      · obtain ⟨ad, x, rfl, hx, cx⟩ := HR.out.at_ (i := k) (by omega)
        have hg := HI.out k hkl
        rw [hx] at hg
        have hg' : ¬ (x : Int) < 128 := by omega
        clear hx hg
        go_wp2_with fail
        go_round
        case rel => exact ⟨k + 1, by omega, by go_num⟩
        case measure => simp [intOf]; omega
      · obtain rfl : k = bs.length := by omega
        go_wp2_with fail
        go_ret3
        exact ⟨rfl, rfl⟩
  have HLO := Lib.hid (Cod.lead_lo 10 bs (by omega) (by omega))
  by_cases nform : ((Cod.lead 10 bs = 9 ∧ 1 < bs.getD (Cod.lead 10 bs) 0) ∨ (0 < Cod.lead 10 bs ∧ bs.getD (Cod.lead 10 bs) 0 = 0))
  · rw [Cod.tk_form n10 nlen nform]
    obtain ⟨q, hq⟩ : ∃ q, q = Cod.lead 10 bs := ⟨_, rfl⟩
    rw [← hq] at n10 nlen nform l1 l2 HI HLO
    clear hq
    obtain ⟨ad, x, hA', hx, cx⟩ := h.at_ (i := q) (by omega)
    subst hA'
    rw [hx] at nform HLO
    have h9 : ((q : Int) == 9) = true ∧ (1 : Int) < x ∨ ((q : Int) == 9) = true ∧ ¬ (1 : Int) < x ∧ (0 : Int) < q ∧ ((x : Int) == 0) = true ∨ ((q : Int) == 9) = false ∧ (0 : Int) < q ∧ ((x : Int) == 0) = true := by
      simp only [beq_iff_eq, beq_eq_false_iff_ne]
      omega
    have hb10 : ((q : Int) == 10) = false := by simp only [beq_eq_false_iff_ne]; omega
    have hbl : ((q : Int) == (bs.length : Int)) = false := by simp only [beq_eq_false_iff_ne]; omega
    have hq1 : q < bs.length := by omega
    have hq10 : (q : Int) < 10 := by omega
    have HX := Lib.hid hx
    clear hx h nform n10 nlen l2 hlt
    have hx128 : (x : Int) < 128 := by have hh := HLO.out; omega
    go_enter Try.func11, Try.ntmps11
    go_wp2_with fail
    go_loop [5] (fun i => ∃ k : Nat, k ≤ q ∧ i = .int .i64 k) (fun i => q - (intOf i).toNat)
    case atStart => exact ⟨0, Nat.zero_le _, rfl⟩
    case round =>
      obtain ⟨k, hk, rfl⟩ := hrel
      by_cases hkl : k < q
      · obtain ⟨ad1, y, e1, hy, cy⟩ := HR.out.at_ (i := k) (by omega)
        cases e1
        have hg := HI.out k hkl
        rw [hy] at hg
        have hg' : ¬ (y : Int) < 128 := by omega
        clear hy hg hx128
        go_wp2_with fail
        go_round
        case rel => exact ⟨k + 1, by omega, by go_num⟩
        case measure => simp [intOf]; omega
      · obtain rfl : q = k := by omega
        rcases h9 with ⟨t1, t2⟩ | ⟨t1, t2, t3, t4⟩ | ⟨t1, t2, t3⟩
        all_goals
          go_wp2_with fail
          go_ret3
          exact ⟨rfl, rfl⟩
  · rw [Cod.tk_ok n10 nlen nform]
    obtain ⟨q, hq⟩ : ∃ q, q = Cod.lead 10 bs := ⟨_, rfl⟩
    rw [← hq] at n10 nlen nform l1 l2 HI HLO ⊢
    clear hq
    obtain ⟨ad, x, hA', hx, cx⟩ := h.at_ (i := q) (by omega)
    subst hA'
    rw [hx] at nform HLO
    have h9 : ((q : Int) == 9) = true ∧ ¬ (1 : Int) < x ∧ (0 : Int) < q ∧ ((x : Int) == 0) = false ∨ ((q : Int) == 9) = false ∧ (0 : Int) < q ∧ ((x : Int) == 0) = false ∨ ((q : Int) == 9) = false ∧ ¬ (0 : Int) < q := by
      simp only [beq_iff_eq, beq_eq_false_iff_ne]
      omega
    have hb10 : ((q : Int) == 10) = false := by simp only [beq_eq_false_iff_ne]; omega
    have hbl : ((q : Int) == (bs.length : Int)) = false := by simp only [beq_eq_false_iff_ne]; omega
    have hq1 : q < bs.length := by omega
    have hq10 : (q : Int) < 10 := by omega
    have hD := Cod.dec_lt64 q bs (by omega) (by omega) (fun e => by rw [hx]; omega)
    have HD := Lib.hid (fun j (hj : j < q + 1) => Cod.dec_part7 q j bs hj hD)
    have HDq := Lib.hid hD
    have HX := Lib.hid hx
    clear hx h nform n10 nlen l2 hlt hD
    have hx128 : (x : Int) < 128 := by have hh := HLO.out; omega
    go_enter Try.func11, Try.ntmps11
    go_wp2_with fail
    go_loop [5] (fun i => ∃ k : Nat, k ≤ q ∧ i = .int .i64 k) (fun i => q - (intOf i).toNat)
    case atStart => exact ⟨0, Nat.zero_le _, rfl⟩
    case round =>
      obtain ⟨k, hk, rfl⟩ := hrel
      by_cases hkl : k < q
      · obtain ⟨ad1, y, e1, hy, cy⟩ := HR.out.at_ (i := k) (by omega)
        cases e1
        have hg := HI.out k hkl
        rw [hy] at hg
        have hg' : ¬ (y : Int) < 128 := by omega
        clear hy hg hx128
        go_wp2_with fail
        go_round
        case rel => exact ⟨k + 1, by omega, by go_num⟩
        case measure => simp [intOf]; omega
      · obtain rfl : q = k := by omega
        rcases h9 with ⟨t1, t2, t3, t4⟩ | ⟨t1, t2, t3⟩ | ⟨t1, t2⟩
        all_goals
          go_wp2_with fail
          go_loop [6, 7] (fun u i => ∃ j : Nat, j ≤ q + 1 ∧ i = .int .i64 ((j : Int) - 1) ∧ u = .int .u64 (Cod.dec (q + 1 - j) (bs.drop j) : Nat)) (fun _ i => (intOf i + 1).toNat)
          case atStart => exact ⟨q + 1, Nat.le_refl _, by go_num, by simp [Cod.dec]⟩
          case round =>
            obtain ⟨j, hj, rfl, rfl⟩ := hrel
            by_cases hj0 : 0 < j
            · obtain ⟨i, rfl⟩ : ∃ i, j = i + 1 := ⟨j - 1, by omega⟩
              obtain ⟨ad2, y, e2, hy, cy⟩ := HR.out.at_ (i := i) (by omega)
              cases e2
              have hb := HD.out i (by omega)
              have hy256 : y < 256 := by
                have := HLT.out (bs.getD i 0) (by rw [List.getD_eq_getElem?_getD, List.getElem?_eq_getElem (show i < bs.length by omega)]; exact List.getElem_mem _)
                omega
              have HS := Lib.hid (Cod.dec_step (q + 1 - (i + 1)) bs i (by omega))
              have HY := Lib.hid hy
              clear hy
              obtain ⟨v, hv⟩ : ∃ v, v = Cod.dec (q + 1 - (i + 1)) (bs.drop (i + 1)) := ⟨_, rfl⟩
              rw [← hv] at hb HS ⊢
              have HV := Lib.hid (shl7r v y hb)
              have hcast : ((i + 1 : Nat) : Int) - 1 = (i : Int) := by omega
              rw [hcast]
              clear hv hcast
              go_wp2_with fail
              go_round
              case rel =>
                refine ⟨i, by omega, by go_num, ?_⟩
                rw [HV.out, show q + 1 - i = q + 1 - (i + 1) + 1 by omega, HS.out, HY.out]
              case measure => simp [intOf]
            · obtain rfl : j = 0 := by omega
              have hv64 := HDq.out
              have HU := Lib.hid (show Cod.dec (q + 1 - 0) (bs.drop 0) = Cod.dec (q + 1) bs by simp)
              rw [HU.out]
              clear HU HD HDq
              obtain ⟨v, hv⟩ : ∃ v, v = Cod.dec (q + 1) bs := ⟨_, rfl⟩
              rw [← hv] at hv64 ⊢
              have HVD := Lib.hid hv
              clear hv
              by_cases hp : v % 2 = 1
              · have hb1 : ((v : Int) % 2 == 1) = true := by simp only [beq_iff_eq]; omega
                have HP := Lib.hid hp
                clear hp
                go_wp2_with fail
                go_ret3
                refine ⟨ret3i ?_ ?_ rfl, rfl⟩
                · show _ = Cod.unzig (Cod.dec (q + 1) bs)
                  rw [← HVD.out]; have := HP.out; unfold Cod.unzig; rw [if_pos this]; omega
                · go_num
              · have hb1 : ((v : Int) % 2 == 1) = false := by simp only [beq_eq_false_iff_ne]; omega
                have HP := Lib.hid hp
                clear hp
                go_wp2_with fail
                go_ret3
                refine ⟨ret3i ?_ ?_ rfl, rfl⟩
                · show _ = Cod.unzig (Cod.dec (q + 1) bs)
                  rw [← HVD.out]; exact unz_even v HP.out
                · go_num
end Go.Proofs.Ytepeamhoajlniaa
