/- The walk of Open of the reference. -/
import Derived.Test.YtepeamhoajlniaaOpn
namespace Go.Proofs.Ytepeamhoajlniaa
open Go.RowKit

namespace Cod
theorem head_take {b : List Nat} (hb : ∀ x ∈ b, x < 256) {n k : Nat} (h0 : 0 < b.length) (h1 : (tk (b.drop 1)).err = 0) (hv : (tk (b.drop 1)).val = n) (hk : (tk (b.drop 1)).size = k) (hl : 1 + k + n ≤ b.length) :
    head (b.getD 0 0) ((b.drop (1 + k)).take n) = b.take (1 + k + n) := by
  have hlt : ∀ x ∈ b.drop 1, x < 256 := fun x hx => hb x (List.mem_of_mem_drop hx)
  have ho := (tk_only (b.drop 1) hlt h1).1
  rw [hv, hk] at ho
  have hln : ((b.drop (1 + k)).take n).length = n := by simp; omega
  have hb0 : b.getD 0 0 < 256 := hb _ (by rw [List.getD_eq_getElem?_getD, List.getElem?_eq_getElem h0]; exact List.getElem_mem _)
  have hc : clamp (b.getD 0 0 : Nat) = b.getD 0 0 := by unfold clamp; omega
  unfold head
  rw [hc, hln, ho]
  cases b with
  | nil => simp at h0
  | cons x xs =>
    have e1 : 1 + k + n = (k + n) + 1 := by omega
    have e2 : 1 + k = k + 1 := by omega
    rw [e1, e2, List.take_succ_cons, List.drop_succ_cons, List.drop_succ_cons, List.drop_zero, List.take_add]
    simp
theorem frm_iff {b : List Nat} (hb : ∀ x ∈ b, x < 256) {n k : Nat} (h0 : 0 < b.length) (h1 : (tk (b.drop 1)).err = 0) (hv : (tk (b.drop 1)).val = n) (hk : (tk (b.drop 1)).size = k) (hl : 1 + k + n + 4 ≤ b.length) :
    frm (b.getD 0 0) ((b.drop (1 + k)).take n) = b.take (1 + k + n + 4) ↔ four (sum (b.take (1 + k + n))) = (b.drop (1 + k + n)).take 4 := by
  have hh := head_take hb h0 h1 hv hk (by omega)
  unfold frm
  rw [hh, show b.take (1 + k + n + 4) = b.take (1 + k + n) ++ (b.drop (1 + k + n)).take 4 from List.take_add, List.append_cancel_left_eq]
end Cod
set_option maxRecDepth 100000 in
set_option maxHeartbeats 4000000 in
theorem open_r (A : Option Addr) (c : Nat) (bs : List Nat) (w : World) (h : RdB w A c bs) (hlt : ∀ x ∈ bs, x < 256) (hl : bs.length ≤ 1000000) :
    Calls Try.prog 28 #[.slice A bs.length c] w (OpnR (Cod.opn bs) w) := by
  have hm := h.len
  by_cases h0 : bs.length = 0
  · have HO := Lib.hid (Cod.opn_0 h0)
    have hb : ((bs.length : Int) == 0) = true := by simp [h0]
    clear h0 h hlt
    go_enter Try.func28, Try.ntmps28
    go_wp2_with fail
    refine bodyPost_ret (results_tmp4 rfl _ _ _) rfl ?_
    exact opn_nil HO.out (Below.refl _ _)
  have hb0 : ((bs.length : Int) == 0) = false := by simp only [beq_eq_false_iff_ne]; omega
  obtain ⟨A1, c1, hsl1, hr1⟩ := run_sub_l (P := Try.prog) 22 5 Try.underlying22 (by kernel_rfl) h 1 (by omega)
  have hd1 : bs.length - 1 = (bs.drop 1).length := by simp
  rw [hd1] at hsl1
  have hsl1 : ∀ w : World, (Instr.slice 22 (.slice A bs.length c) (some (.int .i64 1)) none none).run Try.prog w = .ok (.slice A1 (bs.drop 1).length c1) w := hsl1
  have hlt1 : ∀ x ∈ bs.drop 1, x < 256 := fun x hx => hlt x (List.mem_of_mem_drop hx)
  have HC1 := Lib.hid (takeInt_r A1 c1 (bs.drop 1) w hr1 hlt1)
  have hpos : 0 < bs.length := by omega
  by_cases h1 : ¬ (Cod.tk (bs.drop 1)).err = 0
  · have HO := Lib.hid (Cod.opn_1 h0 h1)
    have he : ((Cod.tk (bs.drop 1)).err == 0) = false := by simpa using h1
    obtain ⟨t, hT⟩ : ∃ t, t = Cod.tk (bs.drop 1) := ⟨_, rfl⟩
    rw [← hT] at HC1 HO he
    have hd := hd1
    obtain ⟨ds, hds⟩ : ∃ ds, ds = bs.drop 1 := ⟨_, rfl⟩
    rw [← hds] at HC1 hsl1
    clear hT hds h1 hr1 hlt1 hd1 hd h hlt h0
    go_enter Try.func28, Try.ntmps28
    go_wp2_with fail
    refine HC1.out.mono ?_
    rintro e w1 ⟨rfl, rfl⟩
    have hbel := Below.refl w.heap.size w
    go_wp2_with fail
    refine bodyPost_ret (results_tmp4 rfl _ _ _) rfl ?_
    exact opn_nil HO.out hbel
  have h1 := Decidable.not_not.1 h1
  have hrg := Cod.tk_range (bs.drop 1)
  have hsz := Cod.tk_size (bs.drop 1) h1
  by_cases h2 : (Cod.tk (bs.drop 1)).val < 0
  · have HO := Lib.hid (Cod.opn_2 h0 h1 h2)
    have he : ((Cod.tk (bs.drop 1)).err == 0) = true := by simpa using h1
    obtain ⟨t, hT⟩ : ∃ t, t = Cod.tk (bs.drop 1) := ⟨_, rfl⟩
    rw [← hT] at HC1 he h2
    obtain ⟨ds, hds⟩ : ∃ ds, ds = bs.drop 1 := ⟨_, rfl⟩
    rw [← hds] at HC1 hsl1
    clear hT hds h1 hr1 hlt1 hd1 h hlt h0 hrg hsz
    go_enter Try.func28, Try.ntmps28
    go_wp2_with fail
    refine HC1.out.mono ?_
    rintro e w1 ⟨rfl, rfl⟩
    have hbel := Below.refl w.heap.size w
    go_wp2_with fail
    refine bodyPost_ret (results_tmp4 rfl _ _ _) rfl ?_
    exact opn_nil HO.out hbel
  obtain ⟨n, hn⟩ : ∃ n : Nat, (Cod.tk (bs.drop 1)).val = n := ⟨(Cod.tk (bs.drop 1)).val.toNat, by omega⟩
  obtain ⟨k, hk⟩ : ∃ k : Nat, (Cod.tk (bs.drop 1)).size = k := ⟨_, rfl⟩
  have HC2 : Hid (Calls Try.prog 11 #[.slice A1 (bs.drop 1).length c1] w fun e w' => e = .returned (.tuple #[.int .i64 (n : Int), .int .i64 (k : Int), .int .i64 0]) ∧ w = w') := by
    have := HC1.out
    unfold TakR at this
    rw [hn, hk, h1] at this
    exact Lib.hid this
  have FI := Lib.hid (fun hl4 => Cod.frm_iff hlt hpos h1 hn hk hl4)
  have o3 := Cod.opn_3 h0 h1 h2
  have o4 := Cod.opn_4 h0 h1 h2
  have o5 := Cod.opn_5 h0 h1 h2
  rw [hk, hn] at o3 o4 o5
  rw [hk] at hsz
  rw [hn] at hrg
  rw [Int.toNat_natCast] at o4 o5
  rw [← hd1] at hsz HC2
  obtain ⟨ds, hds⟩ : ∃ ds, ds = bs.drop 1 := ⟨_, rfl⟩
  rw [← hds] at hsl1
  rw [hd1, ← hds] at HC2
  clear HC1 hk hn hr1 hlt1 h1 h2 hd1 hds h0
  by_cases h3 : (bs.length : Int) - 1 - k - 4 < n
  · have HO := Lib.hid (o3 h3)
    clear o3 o4 o5 h hlt
    go_enter Try.func28, Try.ntmps28
    go_wp2_with fail
    refine HC2.out.mono ?_
    rintro e w1 ⟨rfl, rfl⟩
    have hbel := Below.refl w.heap.size w
    go_wp2_with fail
    refine bodyPost_ret (results_tmp4 rfl _ _ _) rfl ?_
    exact opn_nil HO.out hbel
  have o4 := o4 h3
  have o5 := o5 h3
  have h3' : 1 + k + n + 4 ≤ bs.length := by omega
  have FI := Lib.hid (FI.out h3')
  obtain ⟨A2, c2, hsl2, hr2⟩ := run_sub_h (P := Try.prog) 22 5 Try.underlying22 (by kernel_rfl) h (1 + k + n + 4) h3'
  obtain ⟨A4, c4, hsl4, hr4⟩ := run_sub_lh (P := Try.prog) 22 5 Try.underlying22 (by kernel_rfl) h (1 + k) (1 + k + n) (by omega) (by omega)
  have e1 : ((1 + k + n : Nat) : Int) = 1 + (k : Int) + n := by omega
  have e2 : ((1 + k + n + 4 : Nat) : Int) = 1 + (k : Int) + n + 4 := by omega
  have e3 : ((1 + k : Nat) : Int) = 1 + (k : Int) := by omega
  rw [e2] at hsl2
  rw [e1, e3] at hsl4
  have hq4 : (bs.take (1 + k + n)).drop (1 + k) = (bs.drop (1 + k)).take n := by rw [List.drop_take]; congr 1; omega
  rw [hq4] at hr4
  have l2 : 1 + k + n + 4 = (bs.take (1 + k + n + 4)).length := by simp; omega
  have l4 : 1 + k + n - (1 + k) = ((bs.drop (1 + k)).take n).length := by simp; omega
  have hlt2 : ∀ x ∈ bs.take (1 + k + n + 4), x < 256 := fun x hx => hlt x (List.mem_of_mem_take hx)
  have hlt4 : ∀ x ∈ (bs.drop (1 + k)).take n, x < 256 := fun x hx => hlt x (List.mem_of_mem_drop (List.mem_of_mem_take hx))
  obtain ⟨q2, hq2⟩ : ∃ q2, q2 = bs.take (1 + k + n + 4) := ⟨_, rfl⟩
  obtain ⟨q4, hqq4⟩ : ∃ q4, q4 = (bs.drop (1 + k)).take n := ⟨_, rfl⟩
  have hfi := FI.out
  rw [← hq2, ← hqq4] at hfi
  rw [← hq2] at l2 hr2 hlt2
  rw [← hqq4] at l4 hr4 o5 hlt4
  have hs2 : ∀ w : World, (Instr.slice 22 (.slice A bs.length c) none (some (.int .i64 (1 + (k : Int) + n + 4))) none).run Try.prog w = .ok (.slice A2 q2.length c2) w := fun w => by rw [hsl2, ← l2]
  rw [l4] at hsl4
  have hql4 : q4.length ≤ 1000000 := by omega
  obtain ⟨ad, x, rfl, hx, cx⟩ := h.at_ (i := 0) hpos
  rw [hx] at o5 hfi
  have hx256 : x < 256 := by rw [← hx]; exact hlt _ (by rw [List.getD_eq_getElem?_getD, List.getElem?_eq_getElem hpos]; exact List.getElem_mem _)
  have hw2 : IntKind.i64.wrap (x : Int) = (x : Int) := IntWalk.i64_in _ (by omega)
  rw [Addr.add_zero'] at cx
  have HQ2 := Lib.hid hr2
  have HQ4 := Lib.hid hr4
  have HL2 := Lib.hid hlt2
  have HL4 := Lib.hid hlt4
  have HSL := Lib.hid (Cod.seal_lt (x : Int) q4 hlt4)
  have hw1 : IntKind.i64.wrap (1 + (k : Int) + n + 4) = 1 + (k : Int) + n + 4 := IntWalk.i64_in _ (by omega)
  have hbel1 : Below w.heap.size w (w.alloc (.cells #[] 5)) := (Below.refl _ _).alloc (Nat.le_refl _) _
  have hbz1 := hbel1.size
  have HO1 := Lib.hid (own_none (w := w) (base := w.heap.size) (Nat.le_refl _))
  have HV4 := Lib.hid (hr4.keep hbel1).vals
  clear e1 e2 e3 hsl2 hq4 hq2 hqq4 l2 l4 hr2 hr4 hlt2 hlt4 h hlt hx FI
  by_cases h4 : Cod.four (Cod.sum (bs.take (1 + k + n))) = (bs.drop (1 + k + n)).take 4
  · have HO := Lib.hid (o5 h4)
    have HS : Hid (sameBy (Cod.frm (x : Int) q4) q2 = true) := Lib.hid (by unfold sameBy; simpa using hfi.2 h4)
    clear o3 o4 o5 h4 hfi
    go_enter Try.func28, Try.ntmps28
    go_wp2_with fail
    refine HC2.out.mono ?_
    rintro e w1 ⟨rfl, rfl⟩
    go_wp2_with (at_builtin; refine appN rfl (.tmp 38) (.tmp 46) 22 5 _ _ rfl Try.underlying22 info5 rfl (by decide) rfl rfl (byv_len _) HO1.out HV4.out (byv_one _) (by omega) hbz1 ?_; intro v3 w3 hown3 hb3 hsz3; (rw [Nat.zero_add] at hown3); obtain ⟨E3, g3, rfl⟩ := own_slice hown3; have HO3 := Lib.hid hown3; have HB3 := Lib.hid (hb3 _ _ (Nat.le_refl _) hbel1); have HR3 := Lib.hid (own_rdb hown3 (by omega)).2; clear hown3 hb3)
    have cx3 : w3.cell? ad = some (.int .u8 (x : Int)) := (HB3.out.cell (World.block_lt_of_cell? _ _ cx)).trans cx
    go_region_held3 (fun w' => w'.cell? ad = some (.int .u8 (x : Int))) (first | go_keep | exact hkeep)
      (first | ((go_at_call 32; refine (seal_r (x : Int) E3 g3 q4 w3.drew HR3.out HL4.out hql4 (by omega) (by omega)).mono ?_; rintro e w5 ⟨A5, c5, rfl, ho5, hb5⟩; have HB5 := Lib.hid (HB3.out.drew.trans (hb5.mono HB3.out.drew.size)); have hfl := Cod.seal_len (x : Int) q4; have hpl := Cod.put_le (n := q4.length) ⟨(by omega), (by omega)⟩; have HR5 := Lib.hid (own_rdb ho5 (by omega)).2; have hkeep := (HB5.out.cell (World.block_lt_of_cell? _ _ cx)).trans cx; have HO5 := Lib.hid (own_keep HO3.out.drew hb5); clear ho5 hb5 hfl hpl)) | ((go_at_call 12; refine (sameBytes_any A5 A2 c5 c2 (Cod.frm (x : Int) q4) q2 _ HR5.out (HQ2.out.keep HB5.out) HSL.out HL2.out).mono ?_; rintro e w6 ⟨rfl, rfl⟩; rw [HS.out])))
    go_wp2_with fail
    refine bodyPost_ret (results_tmp4 rfl _ _ _) rfl ?_
    rw [HO.out]
    exact ⟨E3, g3, ret4 rfl (by show _ = ((1 + k + n + 4 : Nat) : Int); omega), HO5.out, HB5.out⟩
  · have HO := Lib.hid (o4 h4)
    have HS : Hid (sameBy (Cod.frm (x : Int) q4) q2 = false) := Lib.hid (by unfold sameBy; simpa using fun e => h4 (hfi.1 e))
    clear o3 o4 o5 h4 hfi
    go_enter Try.func28, Try.ntmps28
    go_wp2_with fail
    refine HC2.out.mono ?_
    rintro e w1 ⟨rfl, rfl⟩
    go_wp2_with (at_builtin; refine appN rfl (.tmp 38) (.tmp 46) 22 5 _ _ rfl Try.underlying22 info5 rfl (by decide) rfl rfl (byv_len _) HO1.out HV4.out (byv_one _) (by omega) hbz1 ?_; intro v3 w3 hown3 hb3 hsz3; (rw [Nat.zero_add] at hown3); obtain ⟨E3, g3, rfl⟩ := own_slice hown3; have HO3 := Lib.hid hown3; have HB3 := Lib.hid (hb3 _ _ (Nat.le_refl _) hbel1); have HR3 := Lib.hid (own_rdb hown3 (by omega)).2; clear hown3 hb3)
    have cx3 : w3.cell? ad = some (.int .u8 (x : Int)) := (HB3.out.cell (World.block_lt_of_cell? _ _ cx)).trans cx
    go_region_held3 (fun w' => w'.cell? ad = some (.int .u8 (x : Int))) (first | go_keep | exact hkeep)
      (first | ((go_at_call 32; refine (seal_r (x : Int) E3 g3 q4 w3.drew HR3.out HL4.out hql4 (by omega) (by omega)).mono ?_; rintro e w5 ⟨A5, c5, rfl, ho5, hb5⟩; have HB5 := Lib.hid (HB3.out.drew.trans (hb5.mono HB3.out.drew.size)); have hfl := Cod.seal_len (x : Int) q4; have hpl := Cod.put_le (n := q4.length) ⟨(by omega), (by omega)⟩; have HR5 := Lib.hid (own_rdb ho5 (by omega)).2; have hkeep := (HB5.out.cell (World.block_lt_of_cell? _ _ cx)).trans cx; clear ho5 hb5 hfl hpl)) | ((go_at_call 12; refine (sameBytes_any A5 A2 c5 c2 (Cod.frm (x : Int) q4) q2 _ HR5.out (HQ2.out.keep HB5.out) HSL.out HL2.out).mono ?_; rintro e w6 ⟨rfl, rfl⟩; rw [HS.out])))
    go_wp2_with fail
    refine bodyPost_ret (results_tmp4 rfl _ _ _) rfl ?_
    exact opn_nil HO.out HB5.out
end Go.Proofs.Ytepeamhoajlniaa
