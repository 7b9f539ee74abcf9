/- TakeInts and TakeWords of the reference. -/
import Derived.Test.YtepeamhoajlniaaTk3
namespace Go.Proofs.Ytepeamhoajlniaa
open Go.RowKit

def TakLO (r : Cod.Got (List Int)) (w : World) (e : Ending) (w' : World) : Prop :=
  ∃ B d, e = .returned (.tuple #[.slice B r.val.length d, .int .i64 (r.size : Nat), .int .i64 r.err]) ∧ w'.ownsRow w.heap.size 3 1 (.slice B r.val.length d) r.val.length (r.val.map (.int .i64)) ∧ Below w.heap.size w w'
def TakWO (r : Cod.Got (List (List Int))) (w : World) (e : Ending) (w' : World) : Prop :=
  ∃ B d, e = .returned (.tuple #[.slice B r.val.length d, .int .i64 (r.size : Nat), .int .i64 r.err]) ∧ OwnM w' w.heap.size 32 3 (.slice B r.val.length d) r.val ∧ (∀ i, i < r.val.length → (r.val.getD i []).length ≤ 1000000) ∧ Below w.heap.size w w'
set_option maxRecDepth 100000 in
set_option maxHeartbeats 4000000 in
theorem takeInts_r (A : Option Addr) (c : Nat) (bs : List Nat) (w : World) (h : RdB w A c bs) (hlt : ∀ x ∈ bs, x < 256) (hl : bs.length ≤ 1000000) :
    Calls Try.prog 17 #[.slice A bs.length c] w (TakLO (Cod.tkL bs) w) := by
  have hm := h.len
  have hle := h.1
  have hlc := h.2.1
  have HC := Lib.hid (takeInt_r A c bs w h hlt)
  by_cases ht : (Cod.tk bs).err = 0
  · by_cases hv : 0 ≤ (Cod.tk bs).val
    · have HR := Lib.hid h
      have HLT := Lib.hid hlt
      have hsz := Cod.tk_size bs ht
      have hrg := Cod.tk_range bs
      have HON := Lib.hid (Cod.lst_on Cod.tk bs ht hv)
      obtain ⟨R, hR⟩ : ∃ R : Nat, (Cod.tk bs).val = R := ⟨(Cod.tk bs).val.toNat, by omega⟩
      obtain ⟨s0, hs0⟩ : ∃ s0 : Nat, (Cod.tk bs).size = s0 := ⟨_, rfl⟩
      have HON2 : Hid (Cod.tkL bs = Cod.on Cod.tk R [] s0 bs) := by
        have := HON.out
        rw [hR, hs0, Int.toNat_natCast] at this
        exact Lib.hid this
      rw [hs0] at hsz
      rw [hR] at hrg
      have HC2 : Hid (Calls Try.prog 11 #[.slice A bs.length c] w fun e w' => e = .returned (.tuple #[.int .i64 (R : Int), .int .i64 (s0 : Int), .int .i64 0]) ∧ w = w') := by
        have := HC.out
        unfold TakR at this
        rw [hR, hs0, ht] at this
        exact Lib.hid this
      clear hR hs0 HON ht hv h hlt HC
      obtain ⟨res, hres⟩ : ∃ res, res = Cod.tkL bs := ⟨_, rfl⟩
      rw [← hres] at HON2 ⊢
      clear hres
      go_enter Try.func17, Try.ntmps17
      go_wp2_with fail
      refine HC2.out.mono ?_
      rintro e w1 ⟨rfl, rfl⟩
      clear HC2
      go_wp2_with fail
      go_loopw [6, 8] (fun u l wr => ∃ (r j : Nat) (B : Option Addr) (d : Nat) (acc : List Int), u = .int .i64 (j : Int) ∧ l = .slice B acc.length d ∧ acc.length + r = R ∧ acc.length ≤ j ∧ j ≤ bs.length ∧ Hid (res = Cod.on Cod.tk r acc j bs) ∧ Hid (wr.ownsRow w.heap.size 3 1 (.slice B acc.length d) acc.length (acc.map (.int .i64))) ∧ Below w.heap.size w wr) (fun u _ _ => bs.length - (intOf u).toNat)
      case atStart => exact ⟨R, s0, none, 0, [], rfl, rfl, by simp, by simp, by omega, HON2, World.ownsRow_nil _ _ _ _, Below.refl _ _⟩
      case round =>
        clear HON2
        obtain ⟨r, j, B, d, acc, rfl, rfl, hN, hacc, hkj, HE, HO, hbel⟩ := hrel
        skip
        have hbz := hbel.size
        by_cases hr0 : 0 < r
        · obtain ⟨r, rfl⟩ : ∃ q, r = q + 1 := ⟨r - 1, by omega⟩
          have hlt1 : (acc.length : Int) < R := by omega
          have HNN := Lib.hid hN
          clear hN
          obtain ⟨A', c', hsl, hr'⟩ := run_sub_l (P := Try.prog) 22 5 Try.underlying22 (by kernel_rfl) (HR.out.keep hbel) j hkj
          have hdl : bs.length - j = (bs.drop j).length := by simp
          have hlt' : ∀ x ∈ bs.drop j, x < 256 := fun x hx => HLT.out x (List.mem_of_mem_drop hx)
          rw [hdl] at hsl
          have HC := Lib.hid (takeInt_r A' c' (bs.drop j) wr hr' hlt')
          by_cases ht : (Cod.tk (bs.drop j)).err = 0
          · have hE2 := Cod.on_ok Cod.tk r acc j bs ht
            have hsz := Cod.tk_size _ ht
            rw [← hdl] at hsz
            obtain ⟨ds, hds⟩ : ∃ ds, ds = bs.drop j := ⟨_, rfl⟩
            rw [← hds] at HC hE2 hsz ht hsl
            obtain ⟨t, hT⟩ : ∃ t, t = Cod.tk ds := ⟨_, rfl⟩
            rw [← hT] at HC hE2 hsz ht
            obtain ⟨tv, ts, te⟩ := t
            simp only at hE2 hsz ht
            subst ht
            have HE2 := Lib.hid hE2
            have HSL := Lib.hid hsl
            clear hE2 hT hr' hlt' hdl hds
            go_wp2_with fail
            refine HC.out.mono ?_
            rintro e w2 ⟨rfl, rfl⟩
            have hbel2 := hbel
            clear HC
            go_wp2_with (at_builtin; refine app1 rfl (.tmp 42) (.tmp 44) 32 3 _ _ rfl Try.underlying32 info3 rfl (by decide) rfl rfl HO.out rfl (by omega) hbz ?_; intro v' w4 hown' hb' hsz'; obtain ⟨E', g', rfl⟩ := own_slice hown'; have HB4 := Lib.hid hb'; clear hb')
            go_roundw
            case rel =>
              refine ⟨r, j + ts, E', g', acc ++ [tv], by go_num, by simp, ?_, by simp; omega, by omega, by rw [← HE2.out]; exact HE, ?_, HB4.out _ _ (Nat.le_refl _) hbel2⟩
              · have := HNN.out; simp; omega
              · exact Lib.hid (by simpa using hown')
            case measure => simp [intOf]; omega
          · have hE2 := Cod.on_bad Cod.tk r acc j bs ht
            have HT := Lib.hid ht
            have hte : ((Cod.tk (bs.drop j)).err == 0) = false := by simpa using ht
            obtain ⟨ds, hds⟩ : ∃ ds, ds = bs.drop j := ⟨_, rfl⟩
            rw [← hds] at HC hE2 hsl hte HT
            obtain ⟨t, hT⟩ : ∃ t, t = Cod.tk ds := ⟨_, rfl⟩
            rw [← hT] at HC hE2 hte HT
            obtain ⟨tv, ts, te⟩ := t
            simp only at hE2 hte HT
            have HE2 := Lib.hid hE2
            have HSL := Lib.hid hsl
            clear hE2 hT hr' hlt' hdl hds ht
            go_wp2_with fail
            refine HC.out.mono ?_
            rintro e w2 ⟨rfl, rfl⟩
            have hbel2 := hbel
            clear HC
            go_wp2_with fail
            go_ret3
            rw [HE.out, HE2.out]
            exact ⟨none, 0, rfl, World.ownsRow_nil _ _ _ _, hbel⟩
        · obtain rfl : r = 0 := by omega
          have hlt1 : ¬ (acc.length : Int) < R := by omega
          clear hN
          go_wp2_with fail
          go_ret3
          have hE := HE.out
          rw [Cod.on_zero] at hE
          rw [hE]
          exact ⟨B, d, rfl, HO.out, hbel⟩
    · have he : (Cod.tkL bs).err = 5 := Cod.lst_neg Cod.tk bs ht (by omega)
      have hbad := Cod.lst_bad Cod.tk bs (by show (Cod.tkL bs).err ≠ 0; rw [he]; decide)
      have hb2 : (Cod.tkL bs).val = [] ∧ (Cod.tkL bs).size = 0 := hbad
      clear hbad
      obtain ⟨t, hT⟩ : ∃ t, t = Cod.tkL bs := ⟨_, rfl⟩
      rw [← hT] at he hb2 ⊢
      obtain ⟨tv, ts, te⟩ := t
      simp only at he hb2
      obtain ⟨h1, h2⟩ := hb2
      subst h1 h2 he
      clear hT h hlt
      obtain ⟨t, hT⟩ : ∃ t, t = Cod.tk bs := ⟨_, rfl⟩
      rw [← hT] at HC ht hv
      obtain ⟨tv, ts, te⟩ := t
      simp only at ht hv
      subst ht
      clear hT
      go_enter Try.func17, Try.ntmps17
      go_wp2_with fail
      refine HC.out.mono ?_
      rintro e w1 ⟨rfl, rfl⟩
      clear HC
      go_wp2_with fail
      go_ret3
      exact ⟨none, 0, rfl, World.ownsRow_nil _ _ _ _, Below.refl _ _⟩
  · have he : (Cod.tkL bs).err = (Cod.tk bs).err := Cod.lst_tk_bad Cod.tk bs ht
    have hbad := Cod.lst_bad Cod.tk bs (by show (Cod.tkL bs).err ≠ 0; rw [he]; exact ht)
    have hb2 : (Cod.tkL bs).val = [] ∧ (Cod.tkL bs).size = 0 := hbad
    clear hbad
    obtain ⟨t, hT⟩ : ∃ t, t = Cod.tkL bs := ⟨_, rfl⟩
    rw [← hT] at he hb2 ⊢
    obtain ⟨tv, ts, te⟩ := t
    simp only at he hb2
    obtain ⟨h1, h2⟩ := hb2
    subst h1 h2 he
    clear hT h hlt
    have hte : ((Cod.tk bs).err == 0) = false := by simpa using ht
    clear ht
    obtain ⟨t, hT⟩ : ∃ t, t = Cod.tk bs := ⟨_, rfl⟩
    rw [← hT] at HC hte ⊢
    obtain ⟨tv, ts, te⟩ := t
    simp only at hte
    clear hT
    go_enter Try.func17, Try.ntmps17
    go_wp2_with fail
    refine HC.out.mono ?_
    rintro e w1 ⟨rfl, rfl⟩
    clear HC
    go_wp2_with fail
    go_ret3
    exact ⟨none, 0, rfl, World.ownsRow_nil _ _ _ _, Below.refl _ _⟩
set_option maxRecDepth 100000 in
set_option maxHeartbeats 4000000 in
theorem takeWords_r (A : Option Addr) (c : Nat) (bs : List Nat) (w : World) (h : RdB w A c bs) (hlt : ∀ x ∈ bs, x < 256) (hl : bs.length ≤ 1000000) :
    Calls Try.prog 19 #[.slice A bs.length c] w (TakWO (Cod.tkW bs) w) := by
  have hm := h.len
  have hle := h.1
  have hlc := h.2.1
  have HC := Lib.hid (takeInt_r A c bs w h hlt)
  by_cases ht : (Cod.tk bs).err = 0
  · by_cases hv : 0 ≤ (Cod.tk bs).val
    · have HR := Lib.hid h
      have HLT := Lib.hid hlt
      have hsz := Cod.tk_size bs ht
      have hrg := Cod.tk_range bs
      have HON := Lib.hid (Cod.lst_on Cod.tkL bs ht hv)
      obtain ⟨R, hR⟩ : ∃ R : Nat, (Cod.tk bs).val = R := ⟨(Cod.tk bs).val.toNat, by omega⟩
      obtain ⟨s0, hs0⟩ : ∃ s0 : Nat, (Cod.tk bs).size = s0 := ⟨_, rfl⟩
      have HON2 : Hid (Cod.tkW bs = Cod.on Cod.tkL R [] s0 bs) := by
        have := HON.out
        rw [hR, hs0, Int.toNat_natCast] at this
        exact Lib.hid this
      rw [hs0] at hsz
      rw [hR] at hrg
      have HC2 : Hid (Calls Try.prog 11 #[.slice A bs.length c] w fun e w' => e = .returned (.tuple #[.int .i64 (R : Int), .int .i64 (s0 : Int), .int .i64 0]) ∧ w = w') := by
        have := HC.out
        unfold TakR at this
        rw [hR, hs0, ht] at this
        exact Lib.hid this
      clear hR hs0 HON ht hv h hlt HC
      obtain ⟨res, hres⟩ : ∃ res, res = Cod.tkW bs := ⟨_, rfl⟩
      rw [← hres] at HON2 ⊢
      clear hres
      go_enter Try.func19, Try.ntmps19
      go_wp2_with fail
      refine HC2.out.mono ?_
      rintro e w1 ⟨rfl, rfl⟩
      clear HC2
      go_wp2_with fail
      go_loopw [6, 8] (fun u l wr => ∃ (r j : Nat) (B : Option Addr) (d : Nat) (acc : List (List Int)), u = .int .i64 (j : Int) ∧ l = .slice B acc.length d ∧ acc.length + r = R ∧ acc.length ≤ j ∧ j ≤ bs.length ∧ Hid (res = Cod.on Cod.tkL r acc j bs) ∧ Hid (OwnM wr w.heap.size 32 3 (.slice B acc.length d) acc) ∧ (∀ i, i < acc.length → (acc.getD i []).length ≤ 1000000) ∧ Below w.heap.size w wr) (fun u _ _ => bs.length - (intOf u).toNat)
      case atStart => exact ⟨R, s0, none, 0, [], rfl, rfl, by simp, by simp, by omega, HON2, OwnM.nil _ _ _ _, by simp, Below.refl _ _⟩
      case round =>
        clear HON2
        obtain ⟨r, j, B, d, acc, rfl, rfl, hN, hacc, hkj, HE, HO, hrows, hbel⟩ := hrel
        have HRS := Lib.hid hrows
        clear hrows
        have hbz := hbel.size
        by_cases hr0 : 0 < r
        · obtain ⟨r, rfl⟩ : ∃ q, r = q + 1 := ⟨r - 1, by omega⟩
          have hlt1 : (acc.length : Int) < R := by omega
          have HNN := Lib.hid hN
          clear hN
          obtain ⟨A', c', hsl, hr'⟩ := run_sub_l (P := Try.prog) 22 5 Try.underlying22 (by kernel_rfl) (HR.out.keep hbel) j hkj
          have hdl : bs.length - j = (bs.drop j).length := by simp
          have hlt' : ∀ x ∈ bs.drop j, x < 256 := fun x hx => HLT.out x (List.mem_of_mem_drop hx)
          rw [hdl] at hsl
          have HC := Lib.hid (takeInts_r A' c' (bs.drop j) wr hr' hlt' (by rw [← hdl]; omega))
          by_cases ht : (Cod.tkL (bs.drop j)).err = 0
          · have hE2 := Cod.on_ok Cod.tkL r acc j bs ht
            have hsz := Cod.tkL_size _ ht
            rw [← hdl] at hsz
            obtain ⟨ds, hds⟩ : ∃ ds, ds = bs.drop j := ⟨_, rfl⟩
            rw [← hds] at HC hE2 hsz ht hsl
            obtain ⟨t, hT⟩ : ∃ t, t = Cod.tkL ds := ⟨_, rfl⟩
            rw [← hT] at HC hE2 hsz ht
            obtain ⟨tv, ts, te⟩ := t
            simp only at hE2 hsz ht
            subst ht
            have HE2 := Lib.hid hE2
            have HSL := Lib.hid hsl
            clear hE2 hT hr' hlt' hdl hds
            go_wp2_with fail
            refine HC.out.mono ?_
            rintro e w2 ⟨B2, d2, rfl, ho2, hb2⟩
            have hbel2 := hbel.trans (hb2.mono hbz)
            have HO2 := Lib.hid (HO.out.keep hb2)
            have HR2 := Lib.hid (own_mono ho2 hbz)
            have hbz2 := hbel2.size
            clear ho2 hb2
            clear HC
            go_wp2_with (at_builtin; refine appM rfl (.tmp 42) (.tmp 44) 33 32 3 rfl Try.underlying33 info32 (by decide) rfl rfl HO2.out rfl HR2.out (by omega) hbz2 ?_; intro v' w4 hown' hb' hsz'; obtain ⟨E', g', rfl⟩ := hown'.slice; have HB4 := Lib.hid hb'; clear hb')
            go_roundw
            case rel =>
              refine ⟨r, j + ts, E', g', acc ++ [tv], by go_num, by simp, ?_, by simp; omega, by omega, by rw [← HE2.out]; exact HE, ?_, rows_snoc HRS.out (by omega), HB4.out _ _ (Nat.le_refl _) hbel2⟩
              · have := HNN.out; simp; omega
              · exact Lib.hid hown'
            case measure => simp [intOf]; omega
          · have hE2 := Cod.on_bad Cod.tkL r acc j bs ht
            have HT := Lib.hid ht
            have hte : ((Cod.tkL (bs.drop j)).err == 0) = false := by simpa using ht
            obtain ⟨ds, hds⟩ : ∃ ds, ds = bs.drop j := ⟨_, rfl⟩
            rw [← hds] at HC hE2 hsl hte HT
            obtain ⟨t, hT⟩ : ∃ t, t = Cod.tkL ds := ⟨_, rfl⟩
            rw [← hT] at HC hE2 hte HT
            obtain ⟨tv, ts, te⟩ := t
            simp only at hE2 hte HT
            have HE2 := Lib.hid hE2
            have HSL := Lib.hid hsl
            clear hE2 hT hr' hlt' hdl hds ht
            go_wp2_with fail
            refine HC.out.mono ?_
            rintro e w2 ⟨B2, d2, rfl, ho2, hb2⟩
            have hbel2 := hbel.trans (hb2.mono hbz)
            have HO2 := Lib.hid (HO.out.keep hb2)
            have HR2 := Lib.hid (own_mono ho2 hbz)
            have hbz2 := hbel2.size
            clear ho2 hb2
            clear HC
            go_wp2_with fail
            go_ret3
            rw [HE.out, HE2.out]
            exact ⟨none, 0, rfl, OwnM.nil _ _ _ _, by simp, hbel2⟩
        · obtain rfl : r = 0 := by omega
          have hlt1 : ¬ (acc.length : Int) < R := by omega
          clear hN
          go_wp2_with fail
          go_ret3
          have hE := HE.out
          rw [Cod.on_zero] at hE
          rw [hE]
          exact ⟨B, d, rfl, HO.out, HRS.out, hbel⟩
    · have he : (Cod.tkW bs).err = 5 := Cod.lst_neg Cod.tkL bs ht (by omega)
      have hbad := Cod.lst_bad Cod.tkL bs (by show (Cod.tkW bs).err ≠ 0; rw [he]; decide)
      have hb2 : (Cod.tkW bs).val = [] ∧ (Cod.tkW bs).size = 0 := hbad
      clear hbad
      obtain ⟨t, hT⟩ : ∃ t, t = Cod.tkW bs := ⟨_, rfl⟩
      rw [← hT] at he hb2 ⊢
      obtain ⟨tv, ts, te⟩ := t
      simp only at he hb2
      obtain ⟨h1, h2⟩ := hb2
      subst h1 h2 he
      clear hT h hlt
      obtain ⟨t, hT⟩ : ∃ t, t = Cod.tk bs := ⟨_, rfl⟩
      rw [← hT] at HC ht hv
      obtain ⟨tv, ts, te⟩ := t
      simp only at ht hv
      subst ht
      clear hT
      go_enter Try.func19, Try.ntmps19
      go_wp2_with fail
      refine HC.out.mono ?_
      rintro e w1 ⟨rfl, rfl⟩
      clear HC
      go_wp2_with fail
      go_ret3
      exact ⟨none, 0, rfl, OwnM.nil _ _ _ _, by simp, Below.refl _ _⟩
  · have he : (Cod.tkW bs).err = (Cod.tk bs).err := Cod.lst_tk_bad Cod.tkL bs ht
    have hbad := Cod.lst_bad Cod.tkL bs (by show (Cod.tkW bs).err ≠ 0; rw [he]; exact ht)
    have hb2 : (Cod.tkW bs).val = [] ∧ (Cod.tkW bs).size = 0 := hbad
    clear hbad
    obtain ⟨t, hT⟩ : ∃ t, t = Cod.tkW bs := ⟨_, rfl⟩
    rw [← hT] at he hb2 ⊢
    obtain ⟨tv, ts, te⟩ := t
    simp only at he hb2
    obtain ⟨h1, h2⟩ := hb2
    subst h1 h2 he
    clear hT h hlt
    have hte : ((Cod.tk bs).err == 0) = false := by simpa using ht
    clear ht
    obtain ⟨t, hT⟩ : ∃ t, t = Cod.tk bs := ⟨_, rfl⟩
    rw [← hT] at HC hte ⊢
    obtain ⟨tv, ts, te⟩ := t
    simp only at hte
    clear hT
    go_enter Try.func19, Try.ntmps19
    go_wp2_with fail
    refine HC.out.mono ?_
    rintro e w1 ⟨rfl, rfl⟩
    clear HC
    go_wp2_with fail
    go_ret3
    exact ⟨none, 0, rfl, OwnM.nil _ _ _ _, by simp, Below.refl _ _⟩
end Go.Proofs.Ytepeamhoajlniaa
