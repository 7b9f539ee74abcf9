/- The walks of length and list. -/
import Derived.Test.YtepeamhoajlniaaTakR
import Derived.Test.YtepeamhoajlniaaMat
namespace Go.Proofs.Ytepeamhoajlniaa
open Go.RowKit

/-- only the source has turned, and what is new -/
structure Mov (w w' : World) (g : Nat) (A : Option Addr) (n c k : Nat) : Prop where
  grown : w.grownBy w' (some g)
  src : Src w' g A n c k
section
variable {w w1 w2 : World} {g : Nat} {A : Option Addr} {n c k k' : Nat}
theorem Mov.refl (h : Src w g A n c k) : Mov w w g A n c k := ⟨⟨rfl, rfl, rfl, Nat.le_refl _, fun _ _ _ => rfl⟩, h⟩
theorem Mov.trans (h : Mov w w1 g A n c k) (h' : Mov w1 w2 g A n c k') : Mov w w2 g A n c k' := ⟨h.grown.trans h'.grown, h'.src⟩
theorem mov_draw (h : Src w g A n c k) (m : Nat) : Mov w (w.drewN m) g A n c k := ⟨⟨rfl, rfl, rfl, Nat.le_refl _, fun _ _ _ => rfl⟩, h.drewN m⟩
theorem mov_set (h : Src w g A n c k) (j m : Nat) : Mov w ((w.setCell ⟨g, 1, none⟩ (.int .i64 (j : Int))).drewN m) g A n c j :=
  ⟨⟨rfl, rfl, rfl, by simp [World.setCell, World.drewN], fun i _ hne => Below.heap_setCell w ⟨g, 1, none⟩ _ i (fun e => hne (by rw [e]))⟩, (h.set j).drewN m⟩
theorem Mov.below {B : Nat} {w0 : World} (h : Mov w w1 g A n c k) (hb : Below B w0 w) (hB : B ≤ g) (hw : B ≤ w.heap.size) : Below B w0 w1 :=
  ⟨h.grown.os.trans hb.os, h.grown.tape.trans hb.tape, h.grown.output.trans hb.output, Nat.le_trans hb.size h.grown.size, fun i hi => (h.grown.block i (by omega) (by intro e; injection e; omega)).trans (hb.block i hi)⟩
theorem Mov.own {base e size m : Nat} {v : Value} {xs : List Value} (h : Mov w w1 g A n c k) (ho : w.ownsRow base e size v m xs) (hg : g < base) : w1.ownsRow base e size v m xs := by
  refine ho.kept h.grown ?_
  cases hv : v.ownBlock with
  | none => exact .inl rfl
  | some b => right; intro e; injection e with e; have := ho.lt b hv; omega
theorem Mov.step (h : Mov w w1 g A n c k) (hg : g < w.heap.size) (hb : Below w.heap.size w1 w2) : Mov w w2 g A n c k :=
  ⟨⟨hb.os.trans h.grown.os, hb.tape.trans h.grown.tape, hb.output.trans h.grown.output, Nat.le_trans h.grown.size hb.size, fun i hi hne => (hb.block i hi).trans (h.grown.block i hi hne)⟩, h.src.of_block (hb.block g hg)⟩
end
namespace Cod
theorem tk_size (b : List Nat) (h : (tk b).err = 0) : 1 ≤ (tk b).size ∧ (tk b).size ≤ b.length := by
  have n10 : lead 10 b ≠ 10 := fun e => by rw [tk_syn e] at h; cases h
  have nlen : lead 10 b ≠ b.length := fun e => by rw [tk_trunc n10 e] at h; cases h
  by_cases nform : ((lead 10 b = 9 ∧ 1 < b.getD (lead 10 b) 0) ∨ (0 < lead 10 b ∧ b.getD (lead 10 b) 0 = 0))
  · rw [tk_form n10 nlen nform] at h; cases h
  · rw [tk_ok n10 nlen nform]
    have := lead_len 10 b
    exact ⟨by show 1 ≤ lead 10 b + 1; omega, by show lead 10 b + 1 ≤ b.length; omega⟩
theorem tk_range (b : List Nat) : -9223372036854775808 ≤ (tk b).val ∧ (tk b).val ≤ 9223372036854775807 := by
  by_cases h : (tk b).err = 0
  · have n10 : lead 10 b ≠ 10 := fun e => by rw [tk_syn e] at h; cases h
    have nlen : lead 10 b ≠ b.length := fun e => by rw [tk_trunc n10 e] at h; cases h
    by_cases nform : ((lead 10 b = 9 ∧ 1 < b.getD (lead 10 b) 0) ∨ (0 < lead 10 b ∧ b.getD (lead 10 b) 0 = 0))
    · rw [tk_form n10 nlen nform] at h; cases h
    · rw [tk_ok n10 nlen nform]
      have l1 := lead_le 10 b
      have l2 := lead_len 10 b
      have hD := dec_lt64 (lead 10 b) b (by omega) (by omega) (fun e => by
        by_cases h1 : 1 < b.getD (lead 10 b) 0
        · exact absurd (.inl ⟨e, h1⟩) nform
        · omega)
      show -9223372036854775808 ≤ unzig (dec (lead 10 b + 1) b) ∧ unzig (dec (lead 10 b + 1) b) ≤ 9223372036854775807
      unfold unzig
      split <;> omega
  · have := tk_bad b h
    rw [this.1]; omega
theorem lst_tk_bad {α : Type} (p : List Nat → Got α) (b : List Nat) (h : (tk b).err ≠ 0) : (lst p b).err = (tk b).err := by unfold lst; rw [if_neg h]
theorem lst_neg {α : Type} (p : List Nat → Got α) (b : List Nat) (h : (tk b).err = 0) (h2 : (tk b).val < 0) : (lst p b).err = 5 := by unfold lst; rw [if_pos h, if_pos h2]
end Cod

section
variable (g : Nat) (A : Option Addr) (c k : Nat) (bs : List Nat) (w : World)
theorem num_ok (hs : Src w g A bs.length c k) (h : RdB w A c bs) (hlt : ∀ x ∈ bs, x < 256) (hk : k ≤ bs.length) (ht : (Cod.tk (bs.drop k)).err = 0) :
    Calls Try.prog 35 #[.pointer (some ⟨g, 0, none⟩)] w fun e w' => e = .returned (.int .i64 (Cod.tk (bs.drop k)).val) ∧ Mov w w' g A bs.length c (k + (Cod.tk (bs.drop k)).size) :=
  (number_ok g A c k bs w hs h hlt hk ht).mono fun _ _ ⟨he, n, hw⟩ => ⟨he, hw ▸ mov_set hs _ n⟩
theorem num_bad (hs : Src w g A bs.length c k) (h : RdB w A c bs) (hk : k ≤ bs.length) (ht : (Cod.tk (bs.drop k)).err ≠ 0) :
    Calls Try.prog 35 #[.pointer (some ⟨g, 0, none⟩)] w fun e w' => e = Pan (Cod.tk (bs.drop k)).err ∧ Mov w w' g A bs.length c k :=
  (number_bad g A c k bs w hs h hk ht).mono fun _ _ ⟨he, n, hw⟩ => ⟨he, hw ▸ mov_draw hs n⟩
theorem length_ok (hs : Src w g A bs.length c k) (h : RdB w A c bs) (hlt : ∀ x ∈ bs, x < 256) (hk : k ≤ bs.length) (ht : (Cod.tk (bs.drop k)).err = 0) (hv : 0 ≤ (Cod.tk (bs.drop k)).val) :
    Calls Try.prog 39 #[.pointer (some ⟨g, 0, none⟩)] w fun e w' => e = .returned (.int .i64 (Cod.tk (bs.drop k)).val) ∧ Mov w w' g A bs.length c (k + (Cod.tk (bs.drop k)).size) := by
  have HC := Lib.hid (num_ok g A c k bs w hs h hlt hk ht)
  obtain ⟨t, hT⟩ : ∃ t, t = Cod.tk (bs.drop k) := ⟨_, rfl⟩
  rw [← hT] at hv HC ⊢
  clear hT ht hlt h hs
  go_enter Try.func39, Try.ntmps39
  go_wp2_with fail
  refine HC.out.mono ?_
  rintro e w' ⟨rfl, hm⟩
  go_wp2
  go_ret
  exact ⟨rfl, hm⟩
theorem length_neg (hs : Src w g A bs.length c k) (h : RdB w A c bs) (hlt : ∀ x ∈ bs, x < 256) (hk : k ≤ bs.length) (ht : (Cod.tk (bs.drop k)).err = 0) (hv : (Cod.tk (bs.drop k)).val < 0) :
    Calls Try.prog 39 #[.pointer (some ⟨g, 0, none⟩)] w fun e w' => e = Pan 5 ∧ Mov w w' g A bs.length c (k + (Cod.tk (bs.drop k)).size) := by
  have HC := Lib.hid (num_ok g A c k bs w hs h hlt hk ht)
  obtain ⟨t, hT⟩ : ∃ t, t = Cod.tk (bs.drop k) := ⟨_, rfl⟩
  rw [← hT] at hv HC ⊢
  clear hT ht hlt h hs
  go_enter Try.func39, Try.ntmps39
  go_wp2_with fail
  refine HC.out.mono ?_
  rintro e w' ⟨rfl, hm⟩
  go_wp2
  exact ⟨rfl, rfl, hm⟩
theorem length_bad (hs : Src w g A bs.length c k) (h : RdB w A c bs) (hk : k ≤ bs.length) (ht : (Cod.tk (bs.drop k)).err ≠ 0) :
    Calls Try.prog 39 #[.pointer (some ⟨g, 0, none⟩)] w fun e w' => e = Pan (Cod.tk (bs.drop k)).err ∧ Mov w w' g A bs.length c k := by
  have HC := Lib.hid (num_bad g A c k bs w hs h hk ht)
  obtain ⟨t, hT⟩ : ∃ t, t = Cod.tk (bs.drop k) := ⟨_, rfl⟩
  rw [← hT] at HC ⊢
  clear hT ht h hs
  go_enter Try.func39, Try.ntmps39
  go_wp2_with fail
  refine HC.out.mono ?_
  rintro e w' ⟨rfl, hm⟩
  go_wp2
  exact ⟨rfl, rfl, hm⟩
end
theorem info3 : (Try.prog.info? 3).map (fun i => (i.zero, i.size, i.bytes)) = some (some (.int .i64 0), 1, 8) := by kernel_rfl
def ListR (r : Cod.Got (List Int)) (g : Nat) (A : Option Addr) (n c k : Nat) (w : World) (e : Ending) (w' : World) : Prop :=
  (r.err = 0 ∧ ∃ B d, e = .returned (.slice B r.val.length d) ∧ w'.ownsRow w.heap.size 3 1 (.slice B r.val.length d) r.val.length (r.val.map (.int .i64)) ∧ Mov w w' g A n c (k + r.size)) ∨ (r.err ≠ 0 ∧ e = Pan r.err ∧ ∃ k', Mov w w' g A n c k')
set_option maxRecDepth 100000 in
set_option maxHeartbeats 4000000 in
theorem list_p (g : Nat) (A : Option Addr) (c k : Nat) (bs : List Nat) (w w0 : World) (hs : Src w g A bs.length c k) (h0 : RdB w0 A c bs) (hb0 : Below w0.heap.size w0 w) (hg0 : w0.heap.size ≤ g) (hlt : ∀ x ∈ bs, x < 256) (hl : bs.length ≤ 1000000) (hk : k ≤ bs.length) :
    Calls Try.prog 37 #[.pointer (some ⟨g, 0, none⟩)] w (ListR (Cod.tkL (bs.drop k)) g A bs.length c k w) := by
  have hg := hs.lt
  have hr := h0.keep hb0
  by_cases ht : (Cod.tk (bs.drop k)).err = 0
  · by_cases hv : 0 ≤ (Cod.tk (bs.drop k)).val
    · have HC := Lib.hid (length_ok g A c k bs w hs hr hlt hk ht hv)
      have hon := Cod.lst_on Cod.tk (bs.drop k) ht hv
      have hsz := Cod.tk_size (bs.drop k) ht
      have hrg := Cod.tk_range (bs.drop k)
      have hdl : (bs.drop k).length = bs.length - k := by simp
      have HON := Lib.hid hon
      clear hon
      obtain ⟨R, hR⟩ : ∃ R : Nat, (Cod.tk (bs.drop k)).val = R := ⟨(Cod.tk (bs.drop k)).val.toNat, by omega⟩
      obtain ⟨s0, hs0⟩ : ∃ s0 : Nat, (Cod.tk (bs.drop k)).size = s0 := ⟨_, rfl⟩
      rw [hR, hs0] at HC
      rw [hs0, hdl] at hsz
      rw [hR] at hrg
      have HON2 : Hid (Cod.tkL (bs.drop k) = Cod.on Cod.tk R [] s0 (bs.drop k)) := by
        have := HON.out
        rw [hR, hs0, Int.toNat_natCast] at this
        exact Lib.hid this
      have HH0 := Lib.hid h0
      have HB0 := Lib.hid hb0
      have HLT := Lib.hid hlt
      clear hR hs0 HON hdl hs hr ht hv h0 hb0 hlt
      obtain ⟨res, hres⟩ : ∃ res, res = Cod.tkL (bs.drop k) := ⟨_, rfl⟩
      rw [← hres] at HON2 ⊢
      clear hres
      go_enter Try.func37, Try.ntmps37
      go_wp2_with fail
      refine HC.out.mono ?_
      rintro e w1 ⟨rfl, hm⟩
      have HM1 := Lib.hid hm
      clear hm HC
      go_wp2_with fail
      go_loopw [3, 4] (fun o n wr => ∃ (r j : Nat) (B : Option Addr) (d : Nat) (acc : List Int), o = .slice B acc.length d ∧ n = .int .i64 r ∧ r ≤ 9223372036854775807 ∧ acc.length ≤ j ∧ k + j ≤ bs.length ∧ Hid (res = Cod.on Cod.tk r acc j (bs.drop k)) ∧ Hid (Mov w wr g A bs.length c (k + j)) ∧ Hid (wr.ownsRow w.heap.size 3 1 (.slice B acc.length d) acc.length (acc.map (.int .i64)))) (fun _ n _ => (intOf n).toNat)
      case atStart => exact ⟨R, s0, none, 0, [], rfl, rfl, by omega, by simp, by omega, HON2, HM1, World.ownsRow_nil _ _ _ _⟩
      case round =>
        clear HON2 HM1
        obtain ⟨r, j, B, d, acc, rfl, rfl, hr63, hacc, hkj, HE, HM, HO⟩ := hrel
        have hsw := HM.out.grown.size
        by_cases hr0 : 0 < r
        · obtain ⟨r, rfl⟩ : ∃ q, r = q + 1 := ⟨r - 1, by omega⟩
          have hdd : (bs.drop k).drop j = bs.drop (k + j) := by rw [List.drop_drop]
          have hRw := HH0.out.keep (HM.out.below HB0.out hg0 HB0.out.size)
          by_cases ht : (Cod.tk (bs.drop (k + j))).err = 0
          · have HC := Lib.hid (num_ok g A c (k + j) bs wr HM.out.src hRw HLT.out hkj ht)
            have hE2 := Cod.on_ok Cod.tk r acc j (bs.drop k) (by rw [hdd]; exact ht)
            rw [hdd] at hE2
            have hsz := Cod.tk_size _ ht
            rw [List.length_drop] at hsz
            obtain ⟨t, hT⟩ : ∃ t, t = Cod.tk (bs.drop (k + j)) := ⟨_, rfl⟩
            rw [← hT] at HC hE2 hsz
            obtain ⟨tv, ts, te⟩ := t
            simp only at HC hE2 hsz
            have HE2 := Lib.hid hE2
            clear hE2 hT ht hRw hdd
            have hri : ((r + 1 : Nat) : Int) = (r : Int) + 1 := by omega
            rw [hri]
            clear hri
            go_wp2_with fail
            refine HC.out.mono ?_
            rintro e w2 ⟨rfl, hm⟩
            have HM2 := Lib.hid (HM.out.trans hm)
            have HO2 := Lib.hid (hm.own HO.out hg)
            have hsw2 := hm.grown.size
            clear hm HC HO
            have hbs : w.heap.size ≤ w2.heap.size := by omega
            go_wp2_with (at_builtin; refine app1 rfl (.tmp 11) (.tmp 14) 32 3 _ _ rfl Try.underlying32 info3 rfl (by decide) rfl rfl HO2.out rfl (by omega) hbs ?_; intro v' w4 hown' hb' hsz'; obtain ⟨E', g', rfl⟩ := own_slice hown'; have HB4 := Lib.hid hb'; clear hb')
            go_roundw
            case rel =>
              refine ⟨r, j + ts, E', g', acc ++ [tv], by simp, by go_num, by omega, by simp; omega, by omega, ?_, ?_, ?_⟩
              · rw [← HE2.out]; exact HE
              · rw [← Nat.add_assoc]; exact HM2.out.step hg (HB4.out _ _ (Nat.le_refl _) (Below.refl _ _))
              · exact Lib.hid (by simpa using hown')
            case measure => simp [intOf]
          · have HC := Lib.hid (num_bad g A c (k + j) bs wr HM.out.src hRw hkj ht)
            have hE2 := Cod.on_bad Cod.tk r acc j (bs.drop k) (by rw [hdd]; exact ht)
            rw [hdd] at hE2
            have HE2 := Lib.hid hE2
            have HT := Lib.hid ht
            clear hE2 ht hRw hdd
            have hri : ((r + 1 : Nat) : Int) = (r : Int) + 1 := by omega
            rw [hri]
            clear hri
            go_wp2_with fail
            refine HC.out.mono ?_
            rintro e w2 ⟨rfl, hm⟩
            go_wp2_with fail
            rw [HE.out, HE2.out]
            exact ⟨rfl, .inr ⟨HT.out, rfl, _, HM.out.trans hm⟩⟩
        · obtain rfl : r = 0 := by omega
          go_wp2_with fail
          go_ret
          have hE := HE.out
          rw [Cod.on_zero] at hE
          rw [hE]
          exact .inl ⟨rfl, B, d, rfl, HO.out, HM.out⟩
    · have HC := Lib.hid (length_neg g A c k bs w hs hr hlt hk ht (by omega))
      have HE := Lib.hid (Cod.lst_neg Cod.tk (bs.drop k) ht (by omega))
      clear hs hr ht hv h0 hb0 hlt
      go_enter Try.func37, Try.ntmps37
      go_wp2_with fail
      refine HC.out.mono ?_
      rintro e w2 ⟨rfl, hm⟩
      go_wp2_with fail
      refine ⟨rfl, .inr ⟨?_, ?_, _, hm⟩⟩
      · show (Cod.lst Cod.tk (bs.drop k)).err ≠ 0
        rw [HE.out]; decide
      · show _ = Pan (Cod.lst Cod.tk (bs.drop k)).err
        rw [HE.out]
  · have HC := Lib.hid (length_bad g A c k bs w hs hr hk ht)
    have HE := Lib.hid (Cod.lst_tk_bad Cod.tk (bs.drop k) ht)
    have HT := Lib.hid ht
    clear hs hr ht h0 hb0 hlt
    go_enter Try.func37, Try.ntmps37
    go_wp2_with fail
    refine HC.out.mono ?_
    rintro e w2 ⟨rfl, hm⟩
    go_wp2_with fail
    refine ⟨rfl, .inr ⟨?_, ?_, _, hm⟩⟩
    · show (Cod.lst Cod.tk (bs.drop k)).err ≠ 0
      rw [HE.out]; exact HT.out
    · show _ = Pan (Cod.lst Cod.tk (bs.drop k)).err
      rw [HE.out]
end Go.Proofs.Ytepeamhoajlniaa
