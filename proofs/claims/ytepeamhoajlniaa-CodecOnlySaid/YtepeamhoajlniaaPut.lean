/- The walks of PutInt: the program's and the reference's. -/
import Derived.Test.YtepeamhoajlniaaProg
import Derived.Test.YtepeamhoajlniaaByt
import Derived.Test.YtepeamhoajlniaaCod3
import Derived.Laws.Bits64b
namespace Go.Proofs.Ytepeamhoajlniaa
open Go.RowKit

theorem not64 (a : Nat) (h : a < 18446744073709551616) : (18446744073709551615 : Nat) ^^^ a = 18446744073709551615 - a := by
  have h1 : ((BitVec.allOnes 64) ^^^ (BitVec.ofNat 64 a)).toNat = (~~~ (BitVec.ofNat 64 a)).toNat := by rw [BitVec.allOnes_xor]
  rw [BitVec.toNat_xor, BitVec.toNat_not, BitVec.toNat_allOnes, BitVec.toNat_ofNat, Nat.mod_eq_of_lt (by simpa using h)] at h1
  simpa using h1
theorem zig_neg {n : Int} (h0 : n < 0) (h1 : -9223372036854775808 ≤ n) : bits .xor .u64 IntKind.u64.max (IntKind.u64.wrap (IntKind.u64.wrap n * 2)) = (Cod.zig n : Int) := by
  have e : IntKind.u64.wrap (IntKind.u64.wrap n * 2) = ((18446744073709551616 + 2 * n).toNat : Int) := by
    rw [IntKind.wrap_u64, IntKind.wrap_u64]; omega
  have m : IntKind.u64.max = ((18446744073709551615 : Nat) : Int) := by decide
  rw [e, m, bits_xor_u64_nat _ _ (by omega) (by omega), not64 _ (by omega)]
  unfold Cod.zig; rw [if_pos h0]; omega
theorem zig_pos {n : Int} (h0 : ¬ n < 0) (h2 : n ≤ 9223372036854775807) : IntKind.u64.wrap (IntKind.u64.wrap n * 2) = (Cod.zig n : Int) := by
  rw [IntKind.wrap_u64, IntKind.wrap_u64]
  unfold Cod.zig; rw [if_neg h0]; omega
theorem or128 (y : Nat) (h : y < 128) : y ||| 128 = y + 128 := by
  have e := Nat.two_pow_add_eq_or_of_lt (b := y) (i := 7) (by omega) 1
  rw [Nat.or_comm, Nat.add_comm]; exact e.symm
theorem and127 (v : Nat) : v &&& 127 = v % 128 := Nat.and_two_pow_sub_one_eq_mod v 7
theorem low_i (v : Nat) (h : v < 18446744073709551616) : bits .and .u64 (v : Int) 127 = ((v % 128 : Nat) : Int) := by
  rw [show (127 : Int) = ((127 : Nat) : Int) from rfl, bits_and_u64_nat _ _ h (by omega), and127]
theorem u8_i (v : Nat) (h : v < 256) : IntKind.u8.wrap (v : Int) = (v : Int) := by
  simp [IntKind.wrap, IntKind.bits, IntKind.signed]; omega
theorem u8w (x : Int) : IntKind.u8.wrap x = x % 256 := by simp [IntKind.wrap, IntKind.bits, IntKind.signed]
theorem bits_or_u8_nat (a b : Nat) (ha : a < 256) (hb : b < 256) : bits .or .u8 (a : Int) (b : Int) = ((a ||| b : Nat) : Int) := by
  have hx : a ||| b < 2 ^ 8 := Nat.or_lt_two_pow (by omega) (by omega)
  have h1 : (BitVec.ofInt 8 (a : Int)).toNat = a := by
    rw [BitVec.ofInt_natCast, BitVec.toNat_ofNat]; exact Nat.mod_eq_of_lt (by omega)
  have h2 : (BitVec.ofInt 8 (b : Int)).toNat = b := by
    rw [BitVec.ofInt_natCast, BitVec.toNat_ofNat]; exact Nat.mod_eq_of_lt (by omega)
  show IntKind.u8.wrap ((BitVec.ofInt 8 (a : Int) ||| BitVec.ofInt 8 (b : Int)).toNat : Int) = _
  rw [BitVec.toNat_or, h1, h2, u8w]
  omega
theorem lead_i (v : Nat) (h : v < 18446744073709551616) : bits .or .u8 (bits .and .u64 (v : Int) 127 % 256) 128 = ((v % 128 + 128 : Nat) : Int) := by
  rw [low_i v h, show ((v % 128 : Nat) : Int) % 256 = ((v % 128 : Nat) : Int) by omega, show (128 : Int) = ((128 : Nat) : Int) from rfl, bits_or_u8_nat _ _ (by omega) (by omega), or128 _ (by omega)]
theorem last_i (v : Nat) (h : v < 128) : IntKind.u8.wrap (v : Int) = (v : Int) := u8_i v (by omega)

theorem info5 : (Try.prog.info? 5).map (fun i => (i.zero, i.size, i.bytes)) = some (some (.int .u8 0), 1, 1) := by kernel_rfl

def PutR (N : List Nat) (w : World) (e : Ending) (w' : World) : Prop := ∃ A c, e = .returned (.slice A N.length c) ∧ w'.ownsRow w.heap.size 5 1 (.slice A N.length c) N.length (byv N) ∧ Below w.heap.size w w'
set_option maxRecDepth 100000 in
set_option maxHeartbeats 4000000 in
theorem putInt_p (n : Int) (w : World) (h1 : -9223372036854775808 ≤ n) (h2 : n ≤ 9223372036854775807) :
    Calls Try.prog 13 #[.int .i64 n] w (PutR (Cod.put n) w) := by
  have HL := Lib.hid (Cod.enc_len10 (Cod.zig_lt h1 h2))
  have hz := Cod.zig_lt h1 h2
  obtain ⟨z, hzz⟩ : ∃ z, z = Cod.zig n := ⟨_, rfl⟩
  have HZ := Lib.hid hzz
  have HP := Lib.hid (show Cod.put n = Cod.enc z by rw [hzz]; rfl)
  rw [← hzz] at hz HL
  clear hzz
  go_enter Try.func13, Try.ntmps13
  go_wp2_with fail
  · have HU := Lib.hid (zig_neg (by omega) h1)
    rw [HU.out, ← HZ.out]
    clear HU
    generalize IntKind.u64.wrap n = q6
    go_loopw [3, 4] (fun u o wr => ∃ (v : Nat) (A : Option Addr) (c : Nat) (bs : List Nat), u = .int .u64 v ∧ o = .slice A bs.length c ∧ v < 18446744073709551616 ∧ Hid (Cod.enc z = bs ++ Cod.enc v) ∧ Hid (wr.ownsRow w.heap.size 5 1 (.slice A bs.length c) bs.length (byv bs)) ∧ Below w.heap.size w wr) (fun u _ _ => (intOf u).toNat)
    case atStart => exact ⟨z, none, 0, [], rfl, rfl, hz, rfl, World.ownsRow_nil _ _ _ _, Below.refl _ _⟩
    case round =>
      obtain ⟨v, A, c, bs, rfl, rfl, hv, HE, HW, hbel⟩ := hrel
      have HN := Lib.hid (show bs.length ≤ 9 by have h1 := HL.out; have h2 := Cod.enc_ne v; rw [HE.out, List.length_append] at h1; omega)
      by_cases hv1 : v < 128
      · have HV := Lib.hid (last_i v hv1)
        go_wp2_with (at_builtin; refine app1 rfl (.tmp 23) (.tmp 26) 22 5 _ _ rfl Try.underlying22 info5 rfl (by decide) rfl rfl HW.out rfl (by have := HN.out; omega) hbel.size ?_; intro v' w4 hown' hb' hsz'; obtain ⟨E', g', rfl⟩ := own_slice hown'; have HB4 := Lib.hid hb'; clear hb')
        rw [HP.out, HE.out, Cod.enc_lo hv1]
        go_ret
        refine ⟨E', g', ?_, ?_, HB4.out _ _ (Nat.le_refl _) hbel⟩
        · simp
        · rw [byv_snoc, List.length_append]; exact hown'
      · have HV := Lib.hid (lead_i v hv)
        have HE2 := Lib.hid (Cod.enc_hi hv1)
        go_wp2_with (at_builtin; refine app1 rfl (.tmp 14) (.tmp 19) 22 5 _ _ rfl Try.underlying22 info5 rfl (by decide) rfl rfl HW.out rfl (by have := HN.out; omega) hbel.size ?_; intro v' w4 hown' hb' hsz'; obtain ⟨E', g', rfl⟩ := own_slice hown'; have HB4 := Lib.hid hb'; clear hb')
        go_roundw
        case rel =>
          rw [HV.out] at hown'
          refine ⟨v / 128, E', g', bs ++ [v % 128 + 128], by go_num, by simp, by omega, Lib.hid (by rw [HE.out, HE2.out]; simp), by rw [byv_snoc, List.length_append]; exact hown', HB4.out _ _ (Nat.le_refl _) hbel⟩
        case measure => simp [intOf]; omega
  · have HU := Lib.hid (zig_pos (by omega) h2)
    rw [HU.out, ← HZ.out]
    clear HU
    generalize IntKind.u64.wrap n = q6
    go_loopw [3, 4] (fun u o wr => ∃ (v : Nat) (A : Option Addr) (c : Nat) (bs : List Nat), u = .int .u64 v ∧ o = .slice A bs.length c ∧ v < 18446744073709551616 ∧ Hid (Cod.enc z = bs ++ Cod.enc v) ∧ Hid (wr.ownsRow w.heap.size 5 1 (.slice A bs.length c) bs.length (byv bs)) ∧ Below w.heap.size w wr) (fun u _ _ => (intOf u).toNat)
    case atStart => exact ⟨z, none, 0, [], rfl, rfl, hz, rfl, World.ownsRow_nil _ _ _ _, Below.refl _ _⟩
    case round =>
      obtain ⟨v, A, c, bs, rfl, rfl, hv, HE, HW, hbel⟩ := hrel
      have HN := Lib.hid (show bs.length ≤ 9 by have h1 := HL.out; have h2 := Cod.enc_ne v; rw [HE.out, List.length_append] at h1; omega)
      by_cases hv1 : v < 128
      · have HV := Lib.hid (last_i v hv1)
        go_wp2_with (at_builtin; refine app1 rfl (.tmp 23) (.tmp 26) 22 5 _ _ rfl Try.underlying22 info5 rfl (by decide) rfl rfl HW.out rfl (by have := HN.out; omega) hbel.size ?_; intro v' w4 hown' hb' hsz'; obtain ⟨E', g', rfl⟩ := own_slice hown'; have HB4 := Lib.hid hb'; clear hb')
        rw [HP.out, HE.out, Cod.enc_lo hv1]
        go_ret
        refine ⟨E', g', ?_, ?_, HB4.out _ _ (Nat.le_refl _) hbel⟩
        · simp
        · rw [byv_snoc, List.length_append]; exact hown'
      · have HV := Lib.hid (lead_i v hv)
        have HE2 := Lib.hid (Cod.enc_hi hv1)
        go_wp2_with (at_builtin; refine app1 rfl (.tmp 14) (.tmp 19) 22 5 _ _ rfl Try.underlying22 info5 rfl (by decide) rfl rfl HW.out rfl (by have := HN.out; omega) hbel.size ?_; intro v' w4 hown' hb' hsz'; obtain ⟨E', g', rfl⟩ := own_slice hown'; have HB4 := Lib.hid hb'; clear hb')
        go_roundw
        case rel =>
          rw [HV.out] at hown'
          refine ⟨v / 128, E', g', bs ++ [v % 128 + 128], by go_num, by simp, by omega, Lib.hid (by rw [HE.out, HE2.out]; simp), by rw [byv_snoc, List.length_append]; exact hown', HB4.out _ _ (Nat.le_refl _) hbel⟩
        case measure => simp [intOf]; omega
end Go.Proofs.Ytepeamhoajlniaa
