/- The walks of PutInt of the reference, and of PutInts and PutWords: the program's and the reference's. -/
import Derived.Test.YtepeamhoajlniaaPut
namespace Go.Proofs.Ytepeamhoajlniaa
open Go.RowKit

namespace Cod
/-- the bytes of a list when k elements have been put -/
def upto {α : Type} (e : α → List Nat) (l : List α) (k : Nat) : List Nat := put l.length ++ (l.take k).flatMap e
theorem upto_zero {α : Type} (e : α → List Nat) (l : List α) : upto e l 0 = put l.length := by simp [upto]
theorem upto_all {α : Type} (e : α → List Nat) (l : List α) : upto e l l.length = cat e l := by simp [upto, cat]
theorem upto_succ {α : Type} (e : α → List Nat) (l : List α) (k : Nat) (x : α) (h : l[k]? = some x) : upto e l (k + 1) = upto e l k ++ e x := by
  obtain ⟨hk, rfl⟩ := List.getElem?_eq_some_iff.1 h
  unfold upto
  rw [List.take_succ_eq_append_getElem hk, List.flatMap_append]; simp
theorem flat_le {α : Type} (e : α → List Nat) (M : Nat) : ∀ l : List α, (∀ x ∈ l, (e x).length ≤ M) → (l.flatMap e).length ≤ M * l.length
  | [], _ => by simp
  | x :: xs, h => by
    have h1 := h x (by simp)
    have h2 := flat_le e M xs fun y hy => h y (by simp [hy])
    simp only [List.flatMap_cons, List.length_append, List.length_cons, Nat.mul_succ]
    omega
theorem put_le {n : Int} (h : I64 n) : (put n).length ≤ 10 := enc_len10 (zig_lt h.1 h.2)
theorem upto_le {α : Type} (e : α → List Nat) (l : List α) (k M : Nat) (h : ∀ x ∈ l, (e x).length ≤ M) (hl : l.length ≤ 9223372036854775807) : (upto e l k).length ≤ 10 + M * l.length := by
  unfold upto
  have h1 := put_le (n := l.length) ⟨by omega, by omega⟩
  have h2 := flat_le e M (l.take k) fun x hx => h x (List.mem_of_mem_take hx)
  have h3 : M * (l.take k).length ≤ M * l.length := Nat.mul_le_mul_left _ (by simp; omega)
  rw [List.length_append]; omega
theorem putL_le (l : List Int) (h : ∀ x ∈ l, I64 x) (hl : l.length ≤ 9223372036854775807) : (putL l).length ≤ 10 + 10 * l.length := by
  have := upto_le put l l.length 10 (fun x hx => put_le (h x hx)) hl
  rwa [upto_all] at this
theorem putL_le' (l : List Int) (h : ∀ x ∈ l, I64 x) (hl : l.length ≤ 1000) : (putL l).length ≤ 10010 := by
  have := putL_le l h (by omega)
  omega
end Cod
theorem rem_i (v : Nat) : (v : Int) % 128 + 128 = ((v % 128 + 128 : Nat) : Int) := by omega

set_option maxRecDepth 100000 in
set_option maxHeartbeats 4000000 in
theorem putInt_r (n : Int) (w : World) (h1 : -9223372036854775808 ≤ n) (h2 : n ≤ 9223372036854775807) :
    Calls Try.prog 14 #[.int .i64 n] w (PutR (Cod.put n) w) := by
  have HL := Lib.hid (Cod.enc_len10 (Cod.zig_lt h1 h2))
  have hz := Cod.zig_lt h1 h2
  obtain ⟨z, hzz⟩ : ∃ z, z = Cod.zig n := ⟨_, rfl⟩
  have HZ := Lib.hid hzz
  have HP := Lib.hid (show Cod.put n = Cod.enc z by rw [hzz]; rfl)
  rw [← hzz] at hz HL
  clear hzz
  go_enter Try.func14, Try.ntmps14
  go_wp2_with fail
  · have HU := Lib.hid (zig_neg (by omega) h1)
    rw [HU.out, ← HZ.out]
    clear HU
    generalize IntKind.u64.wrap n = q6
    go_loopw [3, 4] (fun u o wr => ∃ (v : Nat) (A : Option Addr) (c : Nat) (bs : List Nat), u = .int .u64 v ∧ o = .slice A bs.length c ∧ v < 18446744073709551616 ∧ Hid (Cod.enc z = bs ++ Cod.enc v) ∧ Hid (wr.ownsRow w.heap.size 5 1 (.slice A bs.length c) bs.length (byv bs)) ∧ Below w.heap.size w wr) (fun u _ _ => (intOf u).toNat)
    case atStart => exact ⟨z, none, 0, [], rfl, rfl, hz, rfl, World.ownsRow_nil _ _ _ _, Below.refl _ _⟩
    case round =>
      obtain ⟨v, A, c, bs, rfl, rfl, hv, HE, HW, hbel⟩ := hrel
      have HN := Lib.hid (show bs.length ≤ 9 by have h1 := HL.out; have h2 := Cod.enc_ne v; rw [HE.out, List.length_append] at h1; omega)
      by_cases hv1 : v < 128
      · have HV := Lib.hid (last_i v hv1)
        go_wp2_with (at_builtin; refine app1 rfl (.tmp 23) (.tmp 26) 22 5 _ _ rfl Try.underlying22 info5 rfl (by decide) rfl rfl HW.out rfl (by have := HN.out; omega) hbel.size ?_; intro v' w4 hown' hb' hsz'; obtain ⟨E', g', rfl⟩ := own_slice hown'; have HB4 := Lib.hid hb'; clear hb')
        rw [HP.out, HE.out, Cod.enc_lo hv1]
        go_ret
        refine ⟨E', g', ?_, ?_, HB4.out _ _ (Nat.le_refl _) hbel⟩
        · simp
        · rw [byv_snoc, List.length_append]; exact hown'
      · have HV := Lib.hid (rem_i v)
        have HE2 := Lib.hid (Cod.enc_hi hv1)
        go_wp2_with (at_builtin; refine app1 rfl (.tmp 14) (.tmp 19) 22 5 _ _ rfl Try.underlying22 info5 rfl (by decide) rfl rfl HW.out rfl (by have := HN.out; omega) hbel.size ?_; intro v' w4 hown' hb' hsz'; obtain ⟨E', g', rfl⟩ := own_slice hown'; have HB4 := Lib.hid hb'; clear hb')
        go_roundw
        case rel =>
          rw [HV.out] at hown'
          refine ⟨v / 128, E', g', bs ++ [v % 128 + 128], by go_num, by simp, by omega, Lib.hid (by rw [HE.out, HE2.out]; simp), by rw [byv_snoc, List.length_append]; exact hown', HB4.out _ _ (Nat.le_refl _) hbel⟩
        case measure => simp [intOf]; omega
  · have HU := Lib.hid (zig_pos (by omega) h2)
    rw [HU.out, ← HZ.out]
    clear HU
    generalize IntKind.u64.wrap n = q6
    go_loopw [3, 4] (fun u o wr => ∃ (v : Nat) (A : Option Addr) (c : Nat) (bs : List Nat), u = .int .u64 v ∧ o = .slice A bs.length c ∧ v < 18446744073709551616 ∧ Hid (Cod.enc z = bs ++ Cod.enc v) ∧ Hid (wr.ownsRow w.heap.size 5 1 (.slice A bs.length c) bs.length (byv bs)) ∧ Below w.heap.size w wr) (fun u _ _ => (intOf u).toNat)
    case atStart => exact ⟨z, none, 0, [], rfl, rfl, hz, rfl, World.ownsRow_nil _ _ _ _, Below.refl _ _⟩
    case round =>
      obtain ⟨v, A, c, bs, rfl, rfl, hv, HE, HW, hbel⟩ := hrel
      have HN := Lib.hid (show bs.length ≤ 9 by have h1 := HL.out; have h2 := Cod.enc_ne v; rw [HE.out, List.length_append] at h1; omega)
      by_cases hv1 : v < 128
      · have HV := Lib.hid (last_i v hv1)
        go_wp2_with (at_builtin; refine app1 rfl (.tmp 23) (.tmp 26) 22 5 _ _ rfl Try.underlying22 info5 rfl (by decide) rfl rfl HW.out rfl (by have := HN.out; omega) hbel.size ?_; intro v' w4 hown' hb' hsz'; obtain ⟨E', g', rfl⟩ := own_slice hown'; have HB4 := Lib.hid hb'; clear hb')
        rw [HP.out, HE.out, Cod.enc_lo hv1]
        go_ret
        refine ⟨E', g', ?_, ?_, HB4.out _ _ (Nat.le_refl _) hbel⟩
        · simp
        · rw [byv_snoc, List.length_append]; exact hown'
      · have HV := Lib.hid (rem_i v)
        have HE2 := Lib.hid (Cod.enc_hi hv1)
        go_wp2_with (at_builtin; refine app1 rfl (.tmp 14) (.tmp 19) 22 5 _ _ rfl Try.underlying22 info5 rfl (by decide) rfl rfl HW.out rfl (by have := HN.out; omega) hbel.size ?_; intro v' w4 hown' hb' hsz'; obtain ⟨E', g', rfl⟩ := own_slice hown'; have HB4 := Lib.hid hb'; clear hb')
        go_roundw
        case rel =>
          rw [HV.out] at hown'
          refine ⟨v / 128, E', g', bs ++ [v % 128 + 128], by go_num, by simp, by omega, Lib.hid (by rw [HE.out, HE2.out]; simp), by rw [byv_snoc, List.length_append]; exact hown', HB4.out _ _ (Nat.le_refl _) hbel⟩
        case measure => simp [intOf]; omega

set_option maxRecDepth 100000 in
set_option maxHeartbeats 1000000 in
theorem putInts_p (A : Option Addr) (c : Nat) (xs : List Int) (w : World) (hr : Rd w A xs) (hx : ∀ x ∈ xs, Cod.I64 x) (hn : xs.length ≤ 1000) :
    Calls Try.prog 20 #[.slice A xs.length c] w (PutR (Cod.putL xs) w) := by
  have hm := hr.1
  go_enter Try.func20, Try.ntmps20
  go_wp2_with fail
  refine (putInt_p (xs.length : Int) _ (by omega) (by omega)).mono ?_
  rintro e w1 ⟨A1, c1, rfl, hown, hb1⟩
  have HO := Lib.hid hown
  clear hown
  have HL := Lib.hid (fun k => Cod.upto_le Cod.put xs k 10 (fun x h => Cod.put_le (hx x h)) (by omega))
  go_wp2_with fail
  go_loopw [3, 11] (fun o i wr => ∃ (k : Nat) (A' : Option Addr) (c' : Nat), k ≤ xs.length ∧ o = .slice A' (Cod.upto Cod.put xs k).length c' ∧ i = .int .i64 k ∧ Hid (wr.ownsRow w.heap.size 5 1 (.slice A' (Cod.upto Cod.put xs k).length c') (Cod.upto Cod.put xs k).length (byv (Cod.upto Cod.put xs k))) ∧ Below w.heap.size w wr) (fun _ i _ => xs.length - (intOf i).toNat)
  case atStart => exact ⟨0, A1, c1, Nat.zero_le _, by rw [Cod.upto_zero], rfl, by rw [Cod.upto_zero]; exact HO, hb1⟩
  case round =>
    obtain ⟨k, A', c', hk, rfl, rfl, HW, hbel⟩ := hrel
    by_cases hlt : k < xs.length
    · obtain ⟨ad, x, rfl, hxk, cx⟩ := (hr.keep hbel).at_ hlt
      have hget : xs[k]? = some x := by rw [List.getElem?_eq_getElem hlt]; rw [List.getD_eq_getElem?_getD, List.getElem?_eq_getElem hlt] at hxk; simpa using hxk
      have hxm := hx x (List.mem_of_getElem? hget)
      have HS := Lib.hid (Cod.upto_succ Cod.put xs k x hget)
      have hl1 := HL.out k
      have hl2 : (Cod.put x).length ≤ 10 := by have h := List.mem_of_getElem? hget; exact Cod.put_le (hx x h)
      clear hxk hget
      go_wp2_with fail
      refine (putInt_p x _ hxm.1 hxm.2).mono ?_
      rintro e w2 ⟨A2, c2, rfl, hown2, hb2⟩
      have HO2 := Lib.hid hown2
      have HV2 := Lib.hid (own_rdv hown2 (by omega)).2
      clear hown2
      have HK := Lib.hid (own_keep HW.out hb2)
      have hbs := (hbel.trans (hb2.mono hbel.size))
      have hbz := hbs.size
      go_wp2_with (at_builtin; refine appN rfl (.tmp 15) (.tmp 17) 22 5 _ _ rfl Try.underlying22 info5 rfl (by decide) rfl rfl (byv_len _) HK.out HV2.out (byv_one _) (by omega) hbz ?_; intro v' w4 hown' hb' hsz'; obtain ⟨E', g', rfl⟩ := own_slice hown'; have HB4 := Lib.hid hb'; clear hb')
      go_roundw
      case rel => exact ⟨k + 1, E', g', by omega, by rw [HS.out, List.length_append], by go_num, by rw [HS.out, byv_app, List.length_append]; exact hown', HB4.out _ _ (Nat.le_refl _) hbs⟩
      case measure => simp [intOf]; omega
    · obtain rfl : k = xs.length := by omega
      go_wp2_with fail
      go_ret
      rw [Cod.upto_all] at HW
      exact ⟨A', c', by rw [Cod.upto_all]; rfl, HW.out, hbel⟩

set_option maxRecDepth 100000 in
set_option maxHeartbeats 1000000 in
theorem putInts_r (A : Option Addr) (c : Nat) (xs : List Int) (w : World) (hr : Rd w A xs) (hx : ∀ x ∈ xs, Cod.I64 x) (hn : xs.length ≤ 1000) :
    Calls Try.prog 21 #[.slice A xs.length c] w (PutR (Cod.putL xs) w) := by
  have hm := hr.1
  go_enter Try.func21, Try.ntmps21
  go_wp2_with fail
  refine (putInt_r (xs.length : Int) _ (by omega) (by omega)).mono ?_
  rintro e w1 ⟨A1, c1, rfl, hown, hb1⟩
  have HO := Lib.hid hown
  clear hown
  have HL := Lib.hid (fun k => Cod.upto_le Cod.put xs k 10 (fun x h => Cod.put_le (hx x h)) (by omega))
  go_wp2_with fail
  go_loopw [3, 4] (fun o i wr => ∃ (k : Nat) (A' : Option Addr) (c' : Nat), k ≤ xs.length ∧ o = .slice A' (Cod.upto Cod.put xs k).length c' ∧ i = .int .i64 k ∧ Hid (wr.ownsRow w.heap.size 5 1 (.slice A' (Cod.upto Cod.put xs k).length c') (Cod.upto Cod.put xs k).length (byv (Cod.upto Cod.put xs k))) ∧ Below w.heap.size w wr) (fun _ i _ => xs.length - (intOf i).toNat)
  case atStart => exact ⟨0, A1, c1, Nat.zero_le _, by rw [Cod.upto_zero], rfl, by rw [Cod.upto_zero]; exact HO, hb1⟩
  case round =>
    obtain ⟨k, A', c', hk, rfl, rfl, HW, hbel⟩ := hrel
    by_cases hlt : k < xs.length
    · obtain ⟨ad, x, rfl, hxk, cx⟩ := (hr.keep hbel).at_ hlt
      have hget : xs[k]? = some x := by rw [List.getElem?_eq_getElem hlt]; rw [List.getD_eq_getElem?_getD, List.getElem?_eq_getElem hlt] at hxk; simpa using hxk
      have hxm := hx x (List.mem_of_getElem? hget)
      have HS := Lib.hid (Cod.upto_succ Cod.put xs k x hget)
      have hl1 := HL.out k
      have hl2 : (Cod.put x).length ≤ 10 := by have h := List.mem_of_getElem? hget; exact Cod.put_le (hx x h)
      clear hxk hget
      go_wp2_with fail
      refine (putInt_r x _ hxm.1 hxm.2).mono ?_
      rintro e w2 ⟨A2, c2, rfl, hown2, hb2⟩
      have HO2 := Lib.hid hown2
      have HV2 := Lib.hid (own_rdv hown2 (by omega)).2
      clear hown2
      have HK := Lib.hid (own_keep HW.out hb2)
      have hbs := (hbel.trans (hb2.mono hbel.size))
      have hbz := hbs.size
      go_wp2_with (at_builtin; refine appN rfl (.tmp 14) (.tmp 19) 22 5 _ _ rfl Try.underlying22 info5 rfl (by decide) rfl rfl (byv_len _) HK.out HV2.out (byv_one _) (by omega) hbz ?_; intro v' w4 hown' hb' hsz'; obtain ⟨E', g', rfl⟩ := own_slice hown'; have HB4 := Lib.hid hb'; clear hb')
      go_roundw
      case rel => exact ⟨k + 1, E', g', by omega, by rw [HS.out, List.length_append], by go_num, by rw [HS.out, byv_app, List.length_append]; exact hown', HB4.out _ _ (Nat.le_refl _) hbs⟩
      case measure => simp [intOf]; omega
    · obtain rfl : k = xs.length := by omega
      go_wp2_with fail
      go_ret
      rw [Cod.upto_all] at HW
      exact ⟨A', c', by rw [Cod.upto_all]; rfl, HW.out, hbel⟩

set_option maxRecDepth 100000 in
set_option maxHeartbeats 1000000 in
theorem putWords_p (A : Option Addr) (c : Nat) (xs : List (List Int)) (w : World) (hr : RdM .i64 w A xs) (hx : ∀ x ∈ xs, x.length ≤ 1000 ∧ ∀ y ∈ x, Cod.I64 y) (hn : xs.length ≤ 1000) :
    Calls Try.prog 22 #[.slice A xs.length c] w (PutR (Cod.putW xs) w) := by
  have hm := hr.1
  go_enter Try.func22, Try.ntmps22
  go_wp2_with fail
  refine (putInt_p (xs.length : Int) _ (by omega) (by omega)).mono ?_
  rintro e w1 ⟨A1, c1, rfl, hown, hb1⟩
  have HO := Lib.hid hown
  clear hown
  have HL := Lib.hid (fun k => Cod.upto_le Cod.putL xs k 10010 (fun x h => Cod.putL_le' x (hx x h).2 (hx x h).1) (by omega))
  go_wp2_with fail
  go_loopw [3, 11] (fun o i wr => ∃ (k : Nat) (A' : Option Addr) (c' : Nat), k ≤ xs.length ∧ o = .slice A' (Cod.upto Cod.putL xs k).length c' ∧ i = .int .i64 k ∧ Hid (wr.ownsRow w.heap.size 5 1 (.slice A' (Cod.upto Cod.putL xs k).length c') (Cod.upto Cod.putL xs k).length (byv (Cod.upto Cod.putL xs k))) ∧ Below w.heap.size w wr) (fun _ i _ => xs.length - (intOf i).toNat)
  case atStart => exact ⟨0, A1, c1, Nat.zero_le _, by rw [Cod.upto_zero], rfl, by rw [Cod.upto_zero]; exact HO, hb1⟩
  case round =>
    obtain ⟨k, A', c', hk, rfl, rfl, HW, hbel⟩ := hrel
    by_cases hlt : k < xs.length
    · obtain ⟨ad, B, d, x, rfl, hxk, cx, rx⟩ := (hr.keep hbel).at_ hlt
      have hget : xs[k]? = some x := by rw [List.getElem?_eq_getElem hlt]; rw [List.getD_eq_getElem?_getD, List.getElem?_eq_getElem hlt] at hxk; simpa using hxk
      have hxm := hx x (List.mem_of_getElem? hget)
      have HS := Lib.hid (Cod.upto_succ Cod.putL xs k x hget)
      have hl1 := HL.out k
      have hl2 : (Cod.putL x).length ≤ 10010 := by have h := List.mem_of_getElem? hget; exact Cod.putL_le' x (hx x h).2 (hx x h).1
      clear hxk hget
      go_wp2_with fail
      refine (putInts_p B d x _ rx hxm.2 hxm.1).mono ?_
      rintro e w2 ⟨A2, c2, rfl, hown2, hb2⟩
      have HO2 := Lib.hid hown2
      have HV2 := Lib.hid (own_rdv hown2 (by omega)).2
      clear hown2
      have HK := Lib.hid (own_keep HW.out hb2)
      have hbs := (hbel.trans (hb2.mono hbel.size))
      have hbz := hbs.size
      go_wp2_with (at_builtin; refine appN rfl (.tmp 15) (.tmp 17) 22 5 _ _ rfl Try.underlying22 info5 rfl (by decide) rfl rfl (byv_len _) HK.out HV2.out (byv_one _) (by omega) hbz ?_; intro v' w4 hown' hb' hsz'; obtain ⟨E', g', rfl⟩ := own_slice hown'; have HB4 := Lib.hid hb'; clear hb')
      go_roundw
      case rel => exact ⟨k + 1, E', g', by omega, by rw [HS.out, List.length_append], by go_num, by rw [HS.out, byv_app, List.length_append]; exact hown', HB4.out _ _ (Nat.le_refl _) hbs⟩
      case measure => simp [intOf]; omega
    · obtain rfl : k = xs.length := by omega
      go_wp2_with fail
      go_ret
      rw [Cod.upto_all] at HW
      exact ⟨A', c', by rw [Cod.upto_all]; rfl, HW.out, hbel⟩

set_option maxRecDepth 100000 in
set_option maxHeartbeats 1000000 in
theorem putWords_r (A : Option Addr) (c : Nat) (xs : List (List Int)) (w : World) (hr : RdM .i64 w A xs) (hx : ∀ x ∈ xs, x.length ≤ 1000 ∧ ∀ y ∈ x, Cod.I64 y) (hn : xs.length ≤ 1000) :
    Calls Try.prog 23 #[.slice A xs.length c] w (PutR (Cod.putW xs) w) := by
  have hm := hr.1
  go_enter Try.func23, Try.ntmps23
  go_wp2_with fail
  refine (putInt_r (xs.length : Int) _ (by omega) (by omega)).mono ?_
  rintro e w1 ⟨A1, c1, rfl, hown, hb1⟩
  have HO := Lib.hid hown
  clear hown
  have HL := Lib.hid (fun k => Cod.upto_le Cod.putL xs k 10010 (fun x h => Cod.putL_le' x (hx x h).2 (hx x h).1) (by omega))
  go_wp2_with fail
  go_loopw [3, 4] (fun o i wr => ∃ (k : Nat) (A' : Option Addr) (c' : Nat), k ≤ xs.length ∧ o = .slice A' (Cod.upto Cod.putL xs k).length c' ∧ i = .int .i64 k ∧ Hid (wr.ownsRow w.heap.size 5 1 (.slice A' (Cod.upto Cod.putL xs k).length c') (Cod.upto Cod.putL xs k).length (byv (Cod.upto Cod.putL xs k))) ∧ Below w.heap.size w wr) (fun _ i _ => xs.length - (intOf i).toNat)
  case atStart => exact ⟨0, A1, c1, Nat.zero_le _, by rw [Cod.upto_zero], rfl, by rw [Cod.upto_zero]; exact HO, hb1⟩
  case round =>
    obtain ⟨k, A', c', hk, rfl, rfl, HW, hbel⟩ := hrel
    by_cases hlt : k < xs.length
    · obtain ⟨ad, B, d, x, rfl, hxk, cx, rx⟩ := (hr.keep hbel).at_ hlt
      have hget : xs[k]? = some x := by rw [List.getElem?_eq_getElem hlt]; rw [List.getD_eq_getElem?_getD, List.getElem?_eq_getElem hlt] at hxk; simpa using hxk
      have hxm := hx x (List.mem_of_getElem? hget)
      have HS := Lib.hid (Cod.upto_succ Cod.putL xs k x hget)
      have hl1 := HL.out k
      have hl2 : (Cod.putL x).length ≤ 10010 := by have h := List.mem_of_getElem? hget; exact Cod.putL_le' x (hx x h).2 (hx x h).1
      clear hxk hget
      go_wp2_with fail
      refine (putInts_r B d x _ rx hxm.2 hxm.1).mono ?_
      rintro e w2 ⟨A2, c2, rfl, hown2, hb2⟩
      have HO2 := Lib.hid hown2
      have HV2 := Lib.hid (own_rdv hown2 (by omega)).2
      clear hown2
      have HK := Lib.hid (own_keep HW.out hb2)
      have hbs := (hbel.trans (hb2.mono hbel.size))
      have hbz := hbs.size
      go_wp2_with (at_builtin; refine appN rfl (.tmp 14) (.tmp 19) 22 5 _ _ rfl Try.underlying22 info5 rfl (by decide) rfl rfl (byv_len _) HK.out HV2.out (byv_one _) (by omega) hbz ?_; intro v' w4 hown' hb' hsz'; obtain ⟨E', g', rfl⟩ := own_slice hown'; have HB4 := Lib.hid hb'; clear hb')
      go_roundw
      case rel => exact ⟨k + 1, E', g', by omega, by rw [HS.out, List.length_append], by go_num, by rw [HS.out, byv_app, List.length_append]; exact hown', HB4.out _ _ (Nat.le_refl _) hbs⟩
      case measure => simp [intOf]; omega
    · obtain rfl : k = xs.length := by omega
      go_wp2_with fail
      go_ret
      rw [Cod.upto_all] at HW
      exact ⟨A', c', by rw [Cod.upto_all]; rfl, HW.out, hbel⟩

end Go.Proofs.Ytepeamhoajlniaa
