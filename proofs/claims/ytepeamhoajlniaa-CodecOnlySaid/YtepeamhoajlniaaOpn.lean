/- The walk of Open of the program. -/
import Derived.Test.YtepeamhoajlniaaEq
import Derived.Deep.RegionHeld3
namespace Go.Proofs.Ytepeamhoajlniaa
open Go.RowKit

theorem results_tmp4 {fn : Func} {t u v x : Tmp} (h : fn.results = #[.tmp t, .tmp u, .tmp v, .tmp x]) (tmps : Array Value) (P : Program) (w : World) :
    (results fn tmps).run P w = .ok (.tuple #[tmps.getD t undef, tmps.getD u undef, tmps.getD v undef, tmps.getD x undef]) w := by simp [results, h]
def OpnR (o : Cod.Opened) (w : World) (e : Ending) (w' : World) : Prop :=
  ∃ B d, e = .returned (.tuple #[.int .i64 o.kind, .slice B o.cont.length d, .int .i64 (o.size : Nat), .int .i64 o.err]) ∧ w'.ownsRow w.heap.size 5 1 (.slice B o.cont.length d) o.cont.length (byv o.cont) ∧ Below w.heap.size w w'
namespace Cod
theorem opn_0 {b : List Nat} (h : b.length = 0) : opn b = ⟨0, [], 0, 4⟩ := by unfold opn; rw [if_pos h]
theorem opn_1 {b : List Nat} (h : b.length ≠ 0) (h1 : (tk (b.drop 1)).err ≠ 0) : opn b = ⟨0, [], 0, (tk (b.drop 1)).err⟩ := by unfold opn; rw [if_neg h, if_pos h1]
theorem opn_2 {b : List Nat} (h : b.length ≠ 0) (h1 : (tk (b.drop 1)).err = 0) (h2 : (tk (b.drop 1)).val < 0) : opn b = ⟨0, [], 0, 5⟩ := by unfold opn; rw [if_neg h, if_neg (not_not_intro h1), if_pos h2]
theorem opn_3 {b : List Nat} (h : b.length ≠ 0) (h1 : (tk (b.drop 1)).err = 0) (h2 : ¬ (tk (b.drop 1)).val < 0) (h3 : (b.length : Int) - 1 - (tk (b.drop 1)).size - 4 < (tk (b.drop 1)).val) : opn b = ⟨0, [], 0, 4⟩ := by unfold opn; rw [if_neg h, if_neg (not_not_intro h1), if_neg h2, if_pos h3]
theorem opn_4 {b : List Nat} (h : b.length ≠ 0) (h1 : (tk (b.drop 1)).err = 0) (h2 : ¬ (tk (b.drop 1)).val < 0) (h3 : ¬ (b.length : Int) - 1 - (tk (b.drop 1)).size - 4 < (tk (b.drop 1)).val)
    (h4 : four (sum (b.take (1 + (tk (b.drop 1)).size + (tk (b.drop 1)).val.toNat))) ≠ (b.drop (1 + (tk (b.drop 1)).size + (tk (b.drop 1)).val.toNat)).take 4) : opn b = ⟨0, [], 0, 6⟩ := by unfold opn; rw [if_neg h, if_neg (not_not_intro h1), if_neg h2, if_neg h3, if_neg h4]
theorem opn_5 {b : List Nat} (h : b.length ≠ 0) (h1 : (tk (b.drop 1)).err = 0) (h2 : ¬ (tk (b.drop 1)).val < 0) (h3 : ¬ (b.length : Int) - 1 - (tk (b.drop 1)).size - 4 < (tk (b.drop 1)).val)
    (h4 : four (sum (b.take (1 + (tk (b.drop 1)).size + (tk (b.drop 1)).val.toNat))) = (b.drop (1 + (tk (b.drop 1)).size + (tk (b.drop 1)).val.toNat)).take 4) : opn b = ⟨b.getD 0 0, (b.drop (1 + (tk (b.drop 1)).size)).take (tk (b.drop 1)).val.toNat, 1 + (tk (b.drop 1)).size + (tk (b.drop 1)).val.toNat + 4, 0⟩ := by unfold opn; rw [if_neg h, if_neg (not_not_intro h1), if_neg h2, if_neg h3, if_pos h4]
theorem tk_err_cases (b : List Nat) : (tk b).err = 0 ∨ (tk b).err = 4 ∨ (tk b).err = 5 := by
  by_cases h1 : lead 10 b = 10
  · rw [tk_syn h1]; right; right; rfl
  · by_cases h2 : lead 10 b = b.length
    · rw [tk_trunc h1 h2]; right; left; rfl
    · by_cases h3 : ((lead 10 b = 9 ∧ 1 < b.getD (lead 10 b) 0) ∨ (0 < lead 10 b ∧ b.getD (lead 10 b) 0 = 0))
      · rw [tk_form h1 h2 h3]; right; right; rfl
      · rw [tk_ok h1 h2 h3]; left; rfl
end Cod
theorem ret4 {a b x y : Int} {v : Value} {z : Int} (h : a = b) (g : x = y) : Ending.returned (.tuple #[.int .i64 a, v, .int .i64 x, .int .i64 z]) = .returned (.tuple #[.int .i64 b, v, .int .i64 y, .int .i64 z]) := by rw [h, g]
theorem opn_nil {w w' : World} {o : Cod.Opened} {k : Int} (ho : o = ⟨0, [], 0, k⟩) (hb : Below w.heap.size w w') : OpnR o w (.returned (.tuple #[.int .i64 0, .slice none 0 0, .int .i64 0, .int .i64 k])) w' := by
  subst ho
  exact ⟨none, 0, rfl, World.ownsRow_nil _ _ _ _, hb⟩
set_option maxRecDepth 100000 in
set_option maxHeartbeats 4000000 in
theorem open_p (A : Option Addr) (c : Nat) (bs : List Nat) (w : World) (h : RdB w A c bs) (hlt : ∀ x ∈ bs, x < 256) (hl : bs.length ≤ 1000000) :
    Calls Try.prog 27 #[.slice A bs.length c] w (OpnR (Cod.opn bs) w) := by
  have hm := h.len
  by_cases h0 : bs.length = 0
  · have HO := Lib.hid (Cod.opn_0 h0)
    have hb : ((bs.length : Int) == 0) = true := by simp [h0]
    clear h0 h hlt
    go_enter Try.func27, Try.ntmps27
    go_wp2_with fail
    refine bodyPost_ret (results_tmp4 rfl _ _ _) rfl ?_
    exact opn_nil HO.out (Below.refl _ _)
  have hb0 : ((bs.length : Int) == 0) = false := by simp only [beq_eq_false_iff_ne]; omega
  obtain ⟨A1, c1, hsl1, hr1⟩ := run_sub_l (P := Try.prog) 22 5 Try.underlying22 (by kernel_rfl) h 1 (by omega)
  have hd1 : bs.length - 1 = (bs.drop 1).length := by simp
  rw [hd1] at hsl1
  have hsl1 : ∀ w : World, (Instr.slice 22 (.slice A bs.length c) (some (.int .i64 1)) none none).run Try.prog w = .ok (.slice A1 (bs.drop 1).length c1) w := hsl1
  have hlt1 : ∀ x ∈ bs.drop 1, x < 256 := fun x hx => hlt x (List.mem_of_mem_drop hx)
  have HC1 := Lib.hid (takeInt_p A1 c1 (bs.drop 1) w hr1 hlt1)
  have hpos : 0 < bs.length := by omega
  by_cases h1 : ¬ (Cod.tk (bs.drop 1)).err = 0
  · have HO := Lib.hid (Cod.opn_1 h0 h1)
    have he : ((Cod.tk (bs.drop 1)).err != 0) = true := by simpa using h1
    obtain ⟨t, hT⟩ : ∃ t, t = Cod.tk (bs.drop 1) := ⟨_, rfl⟩
    rw [← hT] at HC1 HO he
    have hd := hd1
    obtain ⟨ds, hds⟩ : ∃ ds, ds = bs.drop 1 := ⟨_, rfl⟩
    rw [← hds] at HC1 hsl1
    clear hT hds h1 hr1 hlt1 hd1 hd h hlt h0
    go_enter Try.func27, Try.ntmps27
    go_wp2_with fail
    refine HC1.out.mono ?_
    rintro e w1 ⟨rfl, hbel⟩
    go_wp2_with fail
    refine bodyPost_ret (results_tmp4 rfl _ _ _) rfl ?_
    exact opn_nil HO.out hbel
  have h1 := Decidable.not_not.1 h1
  have hrg := Cod.tk_range (bs.drop 1)
  have hsz := Cod.tk_size (bs.drop 1) h1
  by_cases h2 : (Cod.tk (bs.drop 1)).val < 0
  · have HO := Lib.hid (Cod.opn_2 h0 h1 h2)
    have he : ((Cod.tk (bs.drop 1)).err != 0) = false := by simpa using h1
    obtain ⟨t, hT⟩ : ∃ t, t = Cod.tk (bs.drop 1) := ⟨_, rfl⟩
    rw [← hT] at HC1 he h2
    obtain ⟨ds, hds⟩ : ∃ ds, ds = bs.drop 1 := ⟨_, rfl⟩
    rw [← hds] at HC1 hsl1
    clear hT hds h1 hr1 hlt1 hd1 h hlt h0 hrg hsz
    go_enter Try.func27, Try.ntmps27
    go_wp2_with fail
    refine HC1.out.mono ?_
    rintro e w1 ⟨rfl, hbel⟩
    go_wp2_with fail
    refine bodyPost_ret (results_tmp4 rfl _ _ _) rfl ?_
    exact opn_nil HO.out hbel
  obtain ⟨n, hn⟩ : ∃ n : Nat, (Cod.tk (bs.drop 1)).val = n := ⟨(Cod.tk (bs.drop 1)).val.toNat, by omega⟩
  obtain ⟨k, hk⟩ : ∃ k : Nat, (Cod.tk (bs.drop 1)).size = k := ⟨_, rfl⟩
  have HC2 : Hid (Calls Try.prog 10 #[.slice A1 (bs.drop 1).length c1] w fun e w' => e = .returned (.tuple #[.int .i64 (n : Int), .int .i64 (k : Int), .int .i64 0]) ∧ Below w.heap.size w w') := by
    have := HC1.out
    unfold TakP at this
    rw [hn, hk, h1] at this
    exact Lib.hid this
  have o3 := Cod.opn_3 h0 h1 h2
  have o4 := Cod.opn_4 h0 h1 h2
  have o5 := Cod.opn_5 h0 h1 h2
  rw [hk, hn] at o3 o4 o5
  rw [hk] at hsz
  rw [hn] at hrg
  rw [Int.toNat_natCast] at o4 o5
  rw [← hd1] at hsz HC2
  obtain ⟨ds, hds⟩ : ∃ ds, ds = bs.drop 1 := ⟨_, rfl⟩
  rw [← hds] at hsl1
  rw [hd1, ← hds] at HC2
  clear HC1 hk hn hr1 hlt1 h1 h2 hd1 hds h0
  by_cases h3 : (bs.length : Int) - 1 - k - 4 < n
  · have HO := Lib.hid (o3 h3)
    clear o3 o4 o5 h hlt
    go_enter Try.func27, Try.ntmps27
    go_wp2_with fail
    refine HC2.out.mono ?_
    rintro e w1 ⟨rfl, hbel⟩
    go_wp2_with fail
    refine bodyPost_ret (results_tmp4 rfl _ _ _) rfl ?_
    exact opn_nil HO.out hbel
  have o4 := o4 h3
  have o5 := o5 h3
  have h3' : 1 + k + n + 4 ≤ bs.length := by omega
  obtain ⟨A2, c2, hsl2, hr2⟩ := run_sub_h (P := Try.prog) 22 5 Try.underlying22 (by kernel_rfl) h (1 + k + n) (by omega)
  obtain ⟨A3, c3, hsl3, hr3⟩ := run_sub_lh (P := Try.prog) 22 5 Try.underlying22 (by kernel_rfl) h (1 + k + n) (1 + k + n + 4) (by omega) h3'
  obtain ⟨A4, c4, hsl4, hr4⟩ := run_sub_lh (P := Try.prog) 22 5 Try.underlying22 (by kernel_rfl) h (1 + k) (1 + k + n) (by omega) (by omega)
  have e1 : ((1 + k + n : Nat) : Int) = 1 + (k : Int) + n := by omega
  have e2 : ((1 + k + n + 4 : Nat) : Int) = 1 + (k : Int) + n + 4 := by omega
  have e3 : ((1 + k : Nat) : Int) = 1 + (k : Int) := by omega
  rw [e1] at hsl2
  rw [e1, e2] at hsl3
  rw [e1, e3] at hsl4
  have hq : (bs.take (1 + k + n + 4)).drop (1 + k + n) = (bs.drop (1 + k + n)).take 4 := by rw [List.drop_take]; congr 1; omega
  have hq4 : (bs.take (1 + k + n)).drop (1 + k) = (bs.drop (1 + k)).take n := by rw [List.drop_take]; congr 1; omega
  rw [hq] at hr3
  rw [hq4] at hr4
  have l2 : 1 + k + n = (bs.take (1 + k + n)).length := by simp; omega
  have l3 : 1 + k + n + 4 - (1 + k + n) = ((bs.drop (1 + k + n)).take 4).length := by simp; omega
  have l4 : 1 + k + n - (1 + k) = ((bs.drop (1 + k)).take n).length := by simp; omega
  have hlt2 : ∀ x ∈ bs.take (1 + k + n), x < 256 := fun x hx => hlt x (List.mem_of_mem_take hx)
  obtain ⟨q2, hq2⟩ : ∃ q2, q2 = bs.take (1 + k + n) := ⟨_, rfl⟩
  obtain ⟨q3, hq3⟩ : ∃ q3, q3 = (bs.drop (1 + k + n)).take 4 := ⟨_, rfl⟩
  obtain ⟨q4, hqq4⟩ : ∃ q4, q4 = (bs.drop (1 + k)).take n := ⟨_, rfl⟩
  rw [← hq2] at l2 hr2 o4 o5 hlt2
  rw [← hq3] at l3 hr3 o4 o5
  rw [← hqq4] at l4 hr4 o5
  have hs2 : ∀ w : World, (Instr.slice 22 (.slice A bs.length c) none (some (.int .i64 (1 + (k : Int) + n))) none).run Try.prog w = .ok (.slice A2 q2.length c2) w := fun w => by rw [hsl2, ← l2]
  rw [l3] at hsl3
  rw [l4] at hsl4
  have hql4 : q4.length ≤ 1000000 := by omega
  obtain ⟨ad, x, rfl, hx, cx⟩ := h.at_ (i := 0) hpos
  rw [hx] at o5
  have hx256 : x < 256 := by rw [← hx]; exact hlt _ (by rw [List.getD_eq_getElem?_getD, List.getElem?_eq_getElem hpos]; exact List.getElem_mem _)
  have hw2 : IntKind.i64.wrap (x : Int) = (x : Int) := IntWalk.i64_in _ (by omega)
  rw [Addr.add_zero'] at cx
  have HQ2 := Lib.hid hr2
  have HQ3 := Lib.hid hr3
  have HQ4 := Lib.hid hr4
  have HL2 := Lib.hid hlt2
  have hw1 : IntKind.i64.wrap (1 + (k : Int) + n + 4) = 1 + (k : Int) + n + 4 := IntWalk.i64_in _ (by omega)
  clear e1 e2 e3 hsl2 hq hq4 hq2 hq3 hqq4 l2 l3 l4 hr2 hr3 hr4 hlt2 h hlt hx
  by_cases h4 : Cod.four (Cod.sum q2) = q3
  · have HO := Lib.hid (o5 h4)
    have HS : Hid (sameBy (Cod.four (Cod.sum q2)) q3 = true) := Lib.hid (by unfold sameBy; simpa using h4)
    clear o3 o4 o5 h4
    go_enter Try.func27, Try.ntmps27
    go_wp2_with fail
    refine HC2.out.mono ?_
    rintro e w1 ⟨rfl, hbel⟩
    have HB1 := Lib.hid hbel
    have HC3 := Lib.hid (fun (w' : World) (hb : Below w.heap.size w w') => sealed_p A2 c2 q2 w' (HQ2.out.keep hb) HL2.out)
    go_wp2_with fail
    go_region_held3 (fun _ => True) (trivial) (first | ((go_at_call 42; refine (HC3.out w1.drew HB1.out.drew).mono ?_; rintro e w5 ⟨A5, c5, rfl, ho5, hb5⟩; have HB5 := Lib.hid (HB1.out.drew.trans (hb5.mono HB1.out.drew.size)); have HR5 := Lib.hid (own_rdb ho5 (by rw [Cod.four_len]; omega)).2; clear ho5 hb5)) | ((go_at_call 41; refine (equal_any A5 A3 c5 c3 (Cod.four (Cod.sum q2)) q3 _ HR5.out (HQ3.out.keep HB5.out)).mono ?_; rintro e w6 ⟨rfl, m, rfl⟩; rw [HS.out])))
    have cx5 : w5.cell? ad = some (.int .u8 (x : Int)) := (HB5.out.cell (World.block_lt_of_cell? _ _ cx)).trans cx
    have HC6 := Lib.hid (fun (w' : World) (hb : Below w.heap.size w w') => clone_p A4 c4 q4 w' (HQ4.out.keep hb) hql4)
    go_wp2_with fail
    go_region_held3 (fun w' => w'.cell? ad = some (.int .u8 (x : Int))) (first | go_keep | exact hkeep) ((go_at_call 43; refine (HC6.out (w5.drewN (m + 1)) (below_drewN' HB5.out _)).mono ?_; rintro e w7 ⟨A7, c7, rfl, ho7, hb7⟩; have hb8 := (below_drewN' HB5.out (m + 1)).trans (hb7.mono HB5.out.size); have hkeep := (hb8.cell (World.block_lt_of_cell? _ _ cx)).trans cx))
    go_wp2_with fail
    refine bodyPost_ret (results_tmp4 rfl _ _ _) rfl ?_
    rw [HO.out]
    exact ⟨A7, c7, ret4 rfl (by show _ = ((1 + k + n + 4 : Nat) : Int); omega), own_mono ho7 HB5.out.size, hb8⟩
  · have HO := Lib.hid (o4 h4)
    have HS : Hid (sameBy (Cod.four (Cod.sum q2)) q3 = false) := Lib.hid (by unfold sameBy; simpa using h4)
    clear o3 o4 o5 h4
    go_enter Try.func27, Try.ntmps27
    go_wp2_with fail
    refine HC2.out.mono ?_
    rintro e w1 ⟨rfl, hbel⟩
    have HB1 := Lib.hid hbel
    have HC3 := Lib.hid (fun (w' : World) (hb : Below w.heap.size w w') => sealed_p A2 c2 q2 w' (HQ2.out.keep hb) HL2.out)
    go_wp2_with fail
    go_region_held3 (fun _ => True) (trivial) (first | ((go_at_call 42; refine (HC3.out w1.drew HB1.out.drew).mono ?_; rintro e w5 ⟨A5, c5, rfl, ho5, hb5⟩; have HB5 := Lib.hid (HB1.out.drew.trans (hb5.mono HB1.out.drew.size)); have HR5 := Lib.hid (own_rdb ho5 (by rw [Cod.four_len]; omega)).2; clear ho5 hb5)) | ((go_at_call 41; refine (equal_any A5 A3 c5 c3 (Cod.four (Cod.sum q2)) q3 _ HR5.out (HQ3.out.keep HB5.out)).mono ?_; rintro e w6 ⟨rfl, m, rfl⟩; rw [HS.out])))
    go_wp2_with fail
    refine bodyPost_ret (results_tmp4 rfl _ _ _) rfl ?_
    exact opn_nil HO.out (below_drewN' HB5.out _)
end Go.Proofs.Ytepeamhoajlniaa
