/- The walk of number. -/
import Derived.Test.YtepeamhoajlniaaTak
namespace Go.Proofs.Ytepeamhoajlniaa
open Go.RowKit

/-- the source: block g holds the bytes' slice and the place -/
def Src (w : World) (g : Nat) (A : Option Addr) (n c : Nat) (k : Nat) : Prop := w.heap[g]? = some (.cells #[.slice A n c, .int .i64 (k : Int)] 67 (0, 0))
section
variable {w w' : World} {g : Nat} {A : Option Addr} {n c k : Nat}
theorem Src.c0 (h : Src w g A n c k) : w.cell? ⟨g, 0, none⟩ = some (.slice A n c) := by rw [cell_of_row w g 0 _ _ _ h]; rfl
theorem Src.c1 (h : Src w g A n c k) : w.cell? ⟨g, 1, none⟩ = some (.int .i64 (k : Int)) := by rw [cell_of_row w g 1 _ _ _ h]; rfl
theorem Src.f1 (h : Src w g A n c k) : w.frozen? ⟨g, 1, none⟩ = false := by
  unfold World.frozen?
  rw [h]; rfl
theorem Src.lt (h : Src w g A n c k) : g < w.heap.size := by
  rcases Nat.lt_or_ge g w.heap.size with hl | hl
  · exact hl
  · unfold Src at h; rw [Array.getElem?_eq_none hl] at h; cases h
theorem Src.of_block (h : Src w g A n c k) (hb : w'.heap[g]? = w.heap[g]?) : Src w' g A n c k := by unfold Src; rw [hb]; exact h
theorem Src.drewN (h : Src w g A n c k) (m : Nat) : Src (w.drewN m) g A n c k := h
theorem Src.set (h : Src w g A n c k) (j : Nat) : Src (w.setCell ⟨g, 1, none⟩ (.int .i64 (j : Int))) g A n c j := by
  unfold Src at h ⊢
  simp [World.setCell, Array.getElem?_modify, h]
end
theorem shl7 (v x : Nat) (h : 128 * v < 18446744073709551616) (hx : x < 256) : bits .or .u64 ((v : Int) * 128) (IntKind.u64.wrap (bits .and .u8 (x : Int) 127)) = ((x % 128 + 128 * v : Nat) : Int) := by
  have e1 : (v : Int) * 128 = ((128 * v : Nat) : Int) := by omega
  have e2 : bits .and .u8 (x : Int) 127 = ((x % 128 : Nat) : Int) := by
    have h1 : (BitVec.ofInt 8 (x : Int)).toNat = x := by rw [BitVec.ofInt_natCast, BitVec.toNat_ofNat]; exact Nat.mod_eq_of_lt (by omega)
    show IntKind.u8.wrap ((BitVec.ofInt 8 (x : Int) &&& BitVec.ofInt 8 127).toNat : Int) = _
    rw [BitVec.toNat_and, h1, u8w, show (BitVec.ofInt 8 127).toNat = 127 from rfl, and127]
    omega
  have e3 : IntKind.u64.wrap ((x % 128 : Nat) : Int) = ((x % 128 : Nat) : Int) := by rw [IntKind.wrap_u64]; omega
  rw [e1, e2, e3, bits_or_u64_nat _ _ (by omega) (by omega)]
  have e := Nat.two_pow_add_eq_or_of_lt (b := x % 128) (i := 7) (by omega) v
  rw [← e]; congr 1; omega
theorem unz_odd (v : Nat) (h : v < 18446744073709551616) (hp : v % 2 = 1) : wrap64 (bits .xor .u64 IntKind.u64.max ((v : Int) / 2)) = Cod.unzig v := by
  have m : IntKind.u64.max = ((18446744073709551615 : Nat) : Int) := by decide
  have e : (v : Int) / 2 = ((v / 2 : Nat) : Int) := by omega
  rw [m, e, bits_xor_u64_nat _ _ (by omega) (by omega), not64 _ (by omega)]
  unfold Cod.unzig wrap64
  rw [if_pos hp]
  omega
theorem unz_even (v : Nat) (hp : ¬ v % 2 = 1) : (v : Int) / 2 = Cod.unzig v := by
  unfold Cod.unzig
  rw [if_neg hp]
  omega
set_option maxRecDepth 100000 in
set_option maxHeartbeats 4000000 in
theorem number_ok (g : Nat) (A : Option Addr) (c k : Nat) (bs : List Nat) (w : World) (hs : Src w g A bs.length c k) (h : RdB w A c bs) (hlt : ∀ x ∈ bs, x < 256) (hk : k ≤ bs.length) (ht : (Cod.tk (bs.drop k)).err = 0) :
    Calls Try.prog 35 #[.pointer (some ⟨g, 0, none⟩)] w fun e w' => e = .returned (.int .i64 (Cod.tk (bs.drop k)).val) ∧ ∃ n, w' = (w.setCell ⟨g, 1, none⟩ (.int .i64 ((k + (Cod.tk (bs.drop k)).size : Nat) : Int))).drewN n := by
  have hm := h.len
  obtain ⟨A', c', hsl, hr⟩ := run_sub_l (P := Try.prog) 22 5 Try.underlying22 (by kernel_rfl) h k hk
  have hlt' : ∀ x ∈ bs.drop k, x < 256 := fun x hx => hlt x (List.mem_of_mem_drop hx)
  have hdl : bs.length - k = (bs.drop k).length := by simp
  rw [hdl] at hsl
  obtain ⟨ds, hds⟩ : ∃ ds, ds = bs.drop k := ⟨_, rfl⟩
  rw [← hds] at ht hsl hr hlt' hdl ⊢
  clear hds hlt
  have n10 : Cod.lead 10 ds ≠ 10 := fun e => by rw [Cod.tk_syn e] at ht; cases ht
  have nlen : Cod.lead 10 ds ≠ ds.length := fun e => by rw [Cod.tk_trunc n10 e] at ht; cases ht
  have nform : ¬((Cod.lead 10 ds = 9 ∧ 1 < ds.getD (Cod.lead 10 ds) 0) ∨ (0 < Cod.lead 10 ds ∧ ds.getD (Cod.lead 10 ds) 0 = 0)) := fun e => by rw [Cod.tk_form n10 nlen e] at ht; cases ht
  have l1 := Cod.lead_le 10 ds
  have l2 := Cod.lead_len 10 ds
  have hlast := last_ok A' c' ds
  rw [Cod.tk_ok n10 nlen nform]
  obtain ⟨q, hq⟩ : ∃ q, q = Cod.lead 10 ds := ⟨_, rfl⟩
  rw [← hq] at n10 nlen nform l1 l2 hlast ⊢
  clear hq ht
  obtain ⟨ad, x, hA', hx, cx⟩ := hr.at_ (i := q) (by omega)
  subst hA'
  rw [hx] at nform
  have hD := Cod.dec_lt64 q ds (by omega) (by omega) (fun e => by rw [hx]; omega)
  have HD := Lib.hid (fun j (hj : j < q + 1) => Cod.dec_part7 q j ds hj hD)
  have HDq := Lib.hid hD
  clear hD
  have HX := Lib.hid hx
  have HLT := Lib.hid hlt'
  have HR := Lib.hid hr
  have hc0 := hs.c0
  have hc1 := hs.c1
  have hf1 := hs.f1
  have h9 : ((q : Int) == 9) = true ∧ ¬ (1 : Int) < x ∧ (0 : Int) < q ∧ ((x : Int) == 0) = false ∨ ((q : Int) == 9) = false ∧ (0 : Int) < q ∧ ((x : Int) == 0) = false ∨ ((q : Int) == 9) = false ∧ ¬ (0 : Int) < q := by
    simp only [beq_iff_eq, beq_eq_false_iff_ne]
    omega
  have hq1 : q < ds.length := by omega
  have hq9 : q ≤ 9 := by omega
  have hkd : k + ds.length = bs.length := by omega
  have hle := hr.1
  have hlc := hr.2.1
  clear hx hlt' hr h hs nform n10 nlen l1 l2 hdl hk
  have HC := Lib.hid hlast
  clear hlast
  have hstep : ∀ (n : Nat), Calls Try.prog 44 #[.slice (some ad) ds.length c'] (w.drewN n) fun e w' => e = .returned (.int .i64 (q : Nat)) ∧ w.drewN n = w' := fun n => HC.out (w.drewN n) (HR.out.drewN n) (by omega) hq1
  have HC2 := Lib.hid hstep
  clear hstep
  rcases h9 with ⟨t1, t2, t3, t4⟩ | ⟨t1, t2, t3⟩ | ⟨t1, t2⟩
  all_goals
    go_enter Try.func35, Try.ntmps35
    go_wp2_with fail
    go_quiet (fail)
    go_wp2_with fail
    refine (HC2.out _).mono ?_
    rintro e w' ⟨rfl, rfl⟩
    go_wp2_with fail
    clear HC HC2
    go_loop [5, 6] (fun u i => ∃ j : Nat, j ≤ q + 1 ∧ i = .int .i64 ((j : Int) - 1) ∧ u = .int .u64 (Cod.dec (q + 1 - j) (ds.drop j) : Nat)) (fun _ i => (intOf i + 1).toNat)
    case atStart => exact ⟨q + 1, Nat.le_refl _, by go_num, by simp [Cod.dec]⟩
    case round =>
      obtain ⟨j, hj, rfl, rfl⟩ := hrel
      by_cases hj0 : 0 < j
      · obtain ⟨i, rfl⟩ : ∃ i, j = i + 1 := ⟨j - 1, by omega⟩
        obtain ⟨ad2, y, e2, hy, cy⟩ := HR.out.at_ (i := i) (by omega)
        cases e2
        have hb := HD.out i (by omega)
        have hy256 : y < 256 := by
          have := HLT.out (ds.getD i 0) (by rw [List.getD_eq_getElem?_getD, List.getElem?_eq_getElem (show i < ds.length by omega)]; exact List.getElem_mem _)
          omega
        have HS := Lib.hid (Cod.dec_step (q + 1 - (i + 1)) ds i (by omega))
        have HY := Lib.hid hy
        clear hy
        obtain ⟨v, hv⟩ : ∃ v, v = Cod.dec (q + 1 - (i + 1)) (ds.drop (i + 1)) := ⟨_, rfl⟩
        rw [← hv] at hb HS ⊢
        have HV := Lib.hid (shl7 v y hb hy256)
        have hcast : ((i + 1 : Nat) : Int) - 1 = (i : Int) := by omega
        rw [hcast]
        clear hv hcast
        go_wp2_with fail
        go_round
        case rel =>
          refine ⟨i, by omega, by go_num, ?_⟩
          rw [HV.out, show q + 1 - i = q + 1 - (i + 1) + 1 by omega, HS.out, HY.out]
        case measure => simp [intOf]
      · obtain rfl : j = 0 := by omega
        have hv64 := HDq.out
        have HU := Lib.hid (show Cod.dec (q + 1 - 0) (ds.drop 0) = Cod.dec (q + 1) ds by simp)
        rw [HU.out]
        clear HU HD HDq
        obtain ⟨v, hv⟩ : ∃ v, v = Cod.dec (q + 1) ds := ⟨_, rfl⟩
        rw [← hv] at hv64 ⊢
        have HVD := Lib.hid hv
        clear hv
        have HB := Lib.hid (show bits .and .u64 (v : Int) 1 = ((v % 2 : Nat) : Int) by rw [show (1 : Int) = ((1 : Nat) : Int) from rfl, bits_and_u64_nat _ _ hv64 (by omega), Nat.and_one_is_mod])
        by_cases hp : v % 2 = 1
        · have hb1 : (bits .and .u64 (v : Int) 1 == 1) = true := by rw [HB.out, hp]; rfl
          clear HB
          have HP := Lib.hid hp
          clear hp
          go_wp2_with fail
          go_ret
          refine ⟨ret_i ?_, _, rfl⟩
          rw [← HVD.out]; exact unz_odd v hv64 HP.out
        · have hb1 : (bits .and .u64 (v : Int) 1 == 1) = false := by rw [HB.out]; simp; omega
          clear HB
          have HP := Lib.hid hp
          clear hp
          go_wp2_with fail
          go_ret
          refine ⟨ret_i ?_, _, rfl⟩
          rw [← HVD.out]; exact unz_even v HP.out
set_option maxRecDepth 100000 in
set_option maxHeartbeats 4000000 in
theorem number_bad (g : Nat) (A : Option Addr) (c k : Nat) (bs : List Nat) (w : World) (hs : Src w g A bs.length c k) (h : RdB w A c bs) (hk : k ≤ bs.length) (ht : (Cod.tk (bs.drop k)).err ≠ 0) :
    Calls Try.prog 35 #[.pointer (some ⟨g, 0, none⟩)] w fun e w' => e = Pan (Cod.tk (bs.drop k)).err ∧ ∃ n, w' = w.drewN n := by
  have hm := h.len
  obtain ⟨A', c', hsl, hr⟩ := run_sub_l (P := Try.prog) 22 5 Try.underlying22 (by kernel_rfl) h k hk
  have hdl : bs.length - k = (bs.drop k).length := by simp
  rw [hdl] at hsl
  obtain ⟨ds, hds⟩ : ∃ ds, ds = bs.drop k := ⟨_, rfl⟩
  rw [← hds] at ht hsl hr hdl ⊢
  clear hds
  have hc0 := hs.c0
  have hc1 := hs.c1
  have hkd : k + ds.length = bs.length := by omega
  have hle := hr.1
  have hlc := hr.2.1
  by_cases n10 : Cod.lead 10 ds = 10
  · have HC := Lib.hid (fun (n : Nat) => last_syn A' c' ds (w.drewN n) (hr.drewN n) n10)
    rw [Cod.tk_syn n10]
    clear hr h hs n10 ht hdl hk
    go_enter Try.func35, Try.ntmps35
    go_wp2_with fail
    go_quiet (fail)
    go_wp2_with fail
    refine (HC.out _).mono ?_
    rintro e w' ⟨rfl, rfl⟩
    go_wp2_with fail
    exact ⟨rfl, rfl, _, rfl⟩
  by_cases nlen : Cod.lead 10 ds = ds.length
  · have HC := Lib.hid (fun (n : Nat) => last_trunc A' c' ds (w.drewN n) (hr.drewN n) n10 nlen)
    rw [Cod.tk_trunc n10 nlen]
    clear hr h hs n10 nlen ht hdl hk
    go_enter Try.func35, Try.ntmps35
    go_wp2_with fail
    go_quiet (fail)
    go_wp2_with fail
    refine (HC.out _).mono ?_
    rintro e w' ⟨rfl, rfl⟩
    go_wp2_with fail
    exact ⟨rfl, rfl, _, rfl⟩
  by_cases nform : ((Cod.lead 10 ds = 9 ∧ 1 < ds.getD (Cod.lead 10 ds) 0) ∨ (0 < Cod.lead 10 ds ∧ ds.getD (Cod.lead 10 ds) 0 = 0))
  · have l1 := Cod.lead_le 10 ds
    have l2 := Cod.lead_len 10 ds
    rw [Cod.tk_form n10 nlen nform]
    have HC := Lib.hid (fun (n : Nat) => last_ok A' c' ds (w.drewN n) (hr.drewN n) (by omega) (by omega))
    obtain ⟨q, hq⟩ : ∃ q, q = Cod.lead 10 ds := ⟨_, rfl⟩
    rw [← hq] at n10 nlen nform l1 l2 HC
    clear hq ht
    obtain ⟨ad, x, hA', hx, cx⟩ := hr.at_ (i := q) (by omega)
    subst hA'
    rw [hx] at nform
    have h9 : ((q : Int) == 9) = true ∧ (1 : Int) < x ∨ ((q : Int) == 9) = true ∧ ¬ (1 : Int) < x ∧ (0 : Int) < q ∧ ((x : Int) == 0) = true ∨ ((q : Int) == 9) = false ∧ (0 : Int) < q ∧ ((x : Int) == 0) = true := by
      simp only [beq_iff_eq, beq_eq_false_iff_ne]
      omega
    have hq1 : q < ds.length := by omega
    have HX := Lib.hid hx
    clear hx hr h hs nform n10 nlen l1 l2 hdl hk
    rcases h9 with ⟨t1, t2⟩ | ⟨t1, t2, t3, t4⟩ | ⟨t1, t2, t3⟩
    all_goals
      go_enter Try.func35, Try.ntmps35
      go_wp2_with fail
      go_quiet (fail)
      go_wp2_with fail
      refine (HC.out _).mono ?_
      rintro e w' ⟨rfl, rfl⟩
      go_wp2_with fail
      exact ⟨rfl, rfl, _, rfl⟩
  · rw [Cod.tk_ok n10 nlen nform] at ht
    exact absurd rfl ht
end Go.Proofs.Ytepeamhoajlniaa
