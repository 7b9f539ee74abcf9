/- The walks of Sum. -/
import Derived.Test.YtepeamhoajlniaaTkR
namespace Go.Proofs.Ytepeamhoajlniaa
open Go.RowKit

theorem ofInt32 (a : Nat) (ha : a < 4294967296) : (BitVec.ofInt 32 (a : Int)).toNat = a := by
  rw [BitVec.ofInt_natCast, BitVec.toNat_ofNat]; exact Nat.mod_eq_of_lt (by omega)
theorem u32w (x : Int) : IntKind.u32.wrap x = x % 4294967296 := by simp [IntKind.wrap, IntKind.bits, IntKind.signed]
theorem xor32 (a b : Nat) (ha : a < 4294967296) (hb : b < 4294967296) : bits .xor .u32 (a : Int) (b : Int) = ((a ^^^ b : Nat) : Int) := by
  have hx : a ^^^ b < 2 ^ 32 := Nat.xor_lt_two_pow (by omega) (by omega)
  show IntKind.u32.wrap ((BitVec.ofInt 32 (a : Int) ^^^ BitVec.ofInt 32 (b : Int)).toNat : Int) = _
  rw [BitVec.toNat_xor, ofInt32 a ha, ofInt32 b hb, u32w]
  omega
theorem and32 (a b : Nat) (ha : a < 4294967296) (hb : b < 4294967296) : bits .and .u32 (a : Int) (b : Int) = ((a &&& b : Nat) : Int) := by
  have hx : a &&& b < 2 ^ 32 := Nat.and_lt_two_pow _ (by omega)
  show IntKind.u32.wrap ((BitVec.ofInt 32 (a : Int) &&& BitVec.ofInt 32 (b : Int)).toNat : Int) = _
  rw [BitVec.toNat_and, ofInt32 a ha, ofInt32 b hb, u32w]
  omega
namespace Cod
theorem bits_snoc (n r : Nat) : bits (n + 1) r = bit (bits n r) := by
  induction n generalizing r with
  | zero => rfl
  | succ n ih => show bits (n + 1) (bit r) = _; rw [ih]; rfl
theorem crcs_snoc (b : List Nat) (k x : Nat) (h : b[k]? = some x) : (b.take (k + 1)).foldl crc 4294967295 = bits 8 ((b.take k).foldl crc 4294967295 ^^^ x) := by
  obtain ⟨hk, rfl⟩ := List.getElem?_eq_some_iff.1 h
  rw [List.take_succ_eq_append_getElem hk, List.foldl_append]; rfl
theorem crcs_lt (b : List Nat) (hb : ∀ x ∈ b, x < 256) (k : Nat) : (b.take k).foldl crc 4294967295 < 4294967296 := fold_lt _ (fun x hx => hb x (List.mem_of_mem_take hx)) (by omega)
end Cod
set_option maxRecDepth 100000 in
set_option maxHeartbeats 2000000 in
theorem sum_p (A : Option Addr) (c : Nat) (bs : List Nat) (w : World) (h : RdB w A c bs) (hlt : ∀ x ∈ bs, x < 256) :
    Calls Try.prog 29 #[.slice A bs.length c] w fun e w' => e = .returned (.int .i64 (Cod.sum bs : Nat)) ∧ w = w' := by
  have hm := h.len
  have hle := h.1
  have hlc := h.2.1
  have HR := Lib.hid h
  have HLT := Lib.hid hlt
  have HCL := Lib.hid (Cod.crcs_lt bs hlt)
  clear h hlt
  go_enter Try.func29, Try.ntmps29
  go_wp2_with fail
  go_loop [3, 9] (fun r i => ∃ k : Nat, k ≤ bs.length ∧ i = .int .i64 k ∧ r = .int .u32 (((bs.take k).foldl Cod.crc 4294967295 : Nat) : Int)) (fun _ i => bs.length - (intOf i).toNat)
  case atStart => exact ⟨0, Nat.zero_le _, rfl, rfl⟩
  case round =>
    obtain ⟨k, hk, rfl, rfl⟩ := hrel
    have hcl := HCL.out k
    by_cases hlt : k < bs.length
    · obtain ⟨ad, x, rfl, hx, cx⟩ := HR.out.at_ (i := k) hlt
      have hget : bs[k]? = some x := by rw [List.getElem?_eq_getElem hlt]; rw [List.getD_eq_getElem?_getD, List.getElem?_eq_getElem hlt] at hx; simpa using hx
      have hx256 := HLT.out x (List.mem_of_getElem? hget)
      have HS := Lib.hid (Cod.crcs_snoc bs k x hget)
      obtain ⟨R, hR⟩ : ∃ R, R = (bs.take k).foldl Cod.crc 4294967295 := ⟨_, rfl⟩
      rw [← hR] at hcl HS ⊢
      clear hx hget hR
      have HX := Lib.hid (xor32 R x hcl (by omega))
      have hq := Nat.xor_lt_two_pow (n := 32) (show R < 2 ^ 32 by omega) (show x < 2 ^ 32 by omega)
      have hq2 : (R ^^^ x : Nat) < 4294967296 := by omega
      clear hq
      go_wp2_with fail
      rw [HX.out]
      clear HX
      obtain ⟨q, hqq⟩ : ∃ q, q = R ^^^ x := ⟨_, rfl⟩
      rw [← hqq] at hq2 HS ⊢
      clear hqq
      have HQ := Lib.hid (fun j => Cod.bits_lt j hq2)
      go_loop [3, 17] (fun r i => ∃ j : Nat, j ≤ 8 ∧ i = .int .i64 j ∧ r = .int .u32 ((Cod.bits j q : Nat) : Int)) (fun _ i => 8 - (intOf i).toNat)
      case atStart => exact ⟨0, Nat.zero_le _, rfl, rfl⟩
      case round =>
        obtain ⟨j, hj, rfl, rfl⟩ := hrel
        have hjl := HQ.out j
        have HB := Lib.hid (Cod.bits_snoc j q)
        by_cases hj8 : j < 8
        · obtain ⟨v, hv⟩ : ∃ v, v = Cod.bits j q := ⟨_, rfl⟩
          rw [← hv] at hjl HB ⊢
          clear hv
          have HX := Lib.hid (xor32 (v / 2) 3988292384 (by omega) (by omega))
          have HA : Hid (bits .and .u32 (v : Int) 1 = ((v % 2 : Nat) : Int)) := Lib.hid (by rw [show (1 : Int) = ((1 : Nat) : Int) from rfl, and32 _ _ hjl (by omega), Nat.and_one_is_mod])
          have hp : (bits .and .u32 (v : Int) 1 == 1) = true ∧ Hid (v % 2 = 1) ∨ (bits .and .u32 (v : Int) 1 == 1) = false ∧ Hid (¬ v % 2 = 1) := by
            rw [HA.out]
            by_cases h : v % 2 = 1
            · left; exact ⟨by rw [h]; rfl, h⟩
            · right; exact ⟨by simp only [beq_eq_false_iff_ne]; omega, h⟩
          clear HA
          rcases hp with ⟨hp, HP⟩ | ⟨hp, HP⟩
          all_goals
            go_wp2_with fail
            go_round
            case rel =>
              refine ⟨j + 1, by omega, by go_num, ?_⟩
              rw [HB.out]
              unfold Cod.bit
              first
                | (rw [if_pos HP.out, ← HX.out]; rfl)
                | (rw [if_neg HP.out]; rfl)
            case measure => simp [intOf]; omega
        · obtain rfl : j = 8 := by omega
          go_wp2_with fail
          go_round
          case rel => exact ⟨k + 1, by omega, by go_num, by rw [HS.out]⟩
          case measure => simp [intOf]; omega
    · obtain rfl : k = bs.length := by omega
      have HX := Lib.hid (xor32 ((bs.take bs.length).foldl Cod.crc 4294967295) 4294967295 hcl (by omega))
      go_wp2_with fail
      go_ret
      refine ⟨ret_i ?_, rfl⟩
      rw [List.take_length] at HX
      have h1 := HX.out
      have h2 := Cod.sum_lt bs HLT.out
      rw [show (4294967295 : Int) = ((4294967295 : Nat) : Int) from rfl, h1]
      show wrap64 ((Cod.sum bs : Nat) : Int) = _
      unfold wrap64; omega
set_option maxRecDepth 100000 in
set_option maxHeartbeats 2000000 in
theorem sum_r (A : Option Addr) (c : Nat) (bs : List Nat) (w : World) (h : RdB w A c bs) (hlt : ∀ x ∈ bs, x < 256) :
    Calls Try.prog 30 #[.slice A bs.length c] w fun e w' => e = .returned (.int .i64 (Cod.sum bs : Nat)) ∧ w = w' := by
  have hm := h.len
  have hle := h.1
  have hlc := h.2.1
  have HR := Lib.hid h
  have HLT := Lib.hid hlt
  have HCL := Lib.hid (Cod.crcs_lt bs hlt)
  clear h hlt
  go_enter Try.func30, Try.ntmps30
  go_wp2_with fail
  go_loop [3, 4] (fun r i => ∃ k : Nat, k ≤ bs.length ∧ i = .int .i64 k ∧ r = .int .u32 (((bs.take k).foldl Cod.crc 4294967295 : Nat) : Int)) (fun _ i => bs.length - (intOf i).toNat)
  case atStart => exact ⟨0, Nat.zero_le _, rfl, rfl⟩
  case round =>
    obtain ⟨k, hk, rfl, rfl⟩ := hrel
    have hcl := HCL.out k
    by_cases hlt : k < bs.length
    · obtain ⟨ad, x, rfl, hx, cx⟩ := HR.out.at_ (i := k) hlt
      have hget : bs[k]? = some x := by rw [List.getElem?_eq_getElem hlt]; rw [List.getD_eq_getElem?_getD, List.getElem?_eq_getElem hlt] at hx; simpa using hx
      have hx256 := HLT.out x (List.mem_of_getElem? hget)
      have HS := Lib.hid (Cod.crcs_snoc bs k x hget)
      obtain ⟨R, hR⟩ : ∃ R, R = (bs.take k).foldl Cod.crc 4294967295 := ⟨_, rfl⟩
      rw [← hR] at hcl HS ⊢
      clear hx hget hR
      have HX := Lib.hid (xor32 R x hcl (by omega))
      have hq := Nat.xor_lt_two_pow (n := 32) (show R < 2 ^ 32 by omega) (show x < 2 ^ 32 by omega)
      have hq2 : (R ^^^ x : Nat) < 4294967296 := by omega
      clear hq
      go_wp2_with fail
      rw [HX.out]
      clear HX
      obtain ⟨q, hqq⟩ : ∃ q, q = R ^^^ x := ⟨_, rfl⟩
      rw [← hqq] at hq2 HS ⊢
      clear hqq
      have HQ := Lib.hid (fun j => Cod.bits_lt j hq2)
      go_loop [3, 5] (fun r i => ∃ j : Nat, j ≤ 8 ∧ i = .int .i64 j ∧ r = .int .u32 ((Cod.bits j q : Nat) : Int)) (fun _ i => 8 - (intOf i).toNat)
      case atStart => exact ⟨0, Nat.zero_le _, rfl, rfl⟩
      case round =>
        obtain ⟨j, hj, rfl, rfl⟩ := hrel
        have hjl := HQ.out j
        have HB := Lib.hid (Cod.bits_snoc j q)
        by_cases hj8 : j < 8
        · obtain ⟨v, hv⟩ : ∃ v, v = Cod.bits j q := ⟨_, rfl⟩
          rw [← hv] at hjl HB ⊢
          clear hv
          have HX := Lib.hid (xor32 (v / 2) 3988292384 (by omega) (by omega))
          have hp : ((v : Int) % 2 == 1) = true ∧ Hid (v % 2 = 1) ∨ ((v : Int) % 2 == 1) = false ∧ Hid (¬ v % 2 = 1) := by
            by_cases h : v % 2 = 1
            · left; exact ⟨by simp only [beq_iff_eq]; omega, h⟩
            · right; exact ⟨by simp only [beq_eq_false_iff_ne]; omega, h⟩
          rcases hp with ⟨hp, HP⟩ | ⟨hp, HP⟩
          all_goals
            go_wp2_with fail
            go_round
            case rel =>
              refine ⟨j + 1, by omega, by go_num, ?_⟩
              rw [HB.out]
              unfold Cod.bit
              first
                | (rw [if_pos HP.out, ← HX.out]; rfl)
                | (rw [if_neg HP.out]; rfl)
            case measure => simp [intOf]; omega
        · obtain rfl : j = 8 := by omega
          go_wp2_with fail
          go_round
          case rel => exact ⟨k + 1, by omega, by go_num, by rw [HS.out]⟩
          case measure => simp [intOf]; omega
    · obtain rfl : k = bs.length := by omega
      have HX := Lib.hid (xor32 ((bs.take bs.length).foldl Cod.crc 4294967295) 4294967295 hcl (by omega))
      go_wp2_with fail
      go_ret
      refine ⟨ret_i ?_, rfl⟩
      rw [List.take_length] at HX
      have h1 := HX.out
      have h2 := Cod.sum_lt bs HLT.out
      rw [show (4294967295 : Int) = ((4294967295 : Nat) : Int) from rfl, h1]
      show wrap64 ((Cod.sum bs : Nat) : Int) = _
      unfold wrap64; omega
end Go.Proofs.Ytepeamhoajlniaa
