/- The walks of sealed and Seal. -/
import Derived.Test.YtepeamhoajlniaaSum
import Derived.Laws.OwnMore
namespace Go.Proofs.Ytepeamhoajlniaa
open Go.RowKit

theorem own_four {w : World} {base : Nat} (hb : base ≤ w.heap.size) (a b c d : Nat) : (w.alloc (.cells #[.int .u8 (a : Int), .int .u8 (b : Int), .int .u8 (c : Int), .int .u8 (d : Int)] 5)).ownsRow base 5 1 (.slice (some ⟨w.heap.size, 0, none⟩) 4 4) 4 (byv [a, b, c, d]) :=
  World.ownsRow_lit w #[.int .u8 (a : Int), .int .u8 (b : Int), .int .u8 (c : Int), .int .u8 (d : Int)] 4 hb (by unfold maxLen; omega) rfl
theorem own_one {w : World} {base : Nat} (hb : base ≤ w.heap.size) (a : Nat) : (w.alloc (.cells #[.int .u8 (a : Int)] 5)).ownsRow base 5 1 (.slice (some ⟨w.heap.size, 0, none⟩) 1 1) 1 (byv [a]) :=
  World.ownsRow_lit w #[.int .u8 (a : Int)] 1 hb (by unfold maxLen; omega) rfl
theorem own_none {w : World} {base : Nat} (hb : base ≤ w.heap.size) : (w.alloc (.cells #[] 5)).ownsRow base 5 1 (.slice (some ⟨w.heap.size, 0, none⟩) 0 0) 0 (byv []) :=
  World.ownsRow_lit w #[] 0 hb (by unfold maxLen; omega) rfl
theorem four_byv (s : Nat) (h : s < 4294967296) : byv (Cod.four s) = [.int .u8 ((s : Int) / 16777216), .int .u8 ((s : Int) / 65536 % 256), .int .u8 ((s : Int) / 256 % 256), .int .u8 ((s : Int) % 256)] := by
  have e : ((s / 16777216 % 256 : Nat) : Int) = (s : Int) / 16777216 := by omega
  have e2 : ((s / 65536 % 256 : Nat) : Int) = (s : Int) / 65536 % 256 := by omega
  have e3 : ((s / 256 % 256 : Nat) : Int) = (s : Int) / 256 % 256 := by omega
  have e4 : ((s % 256 : Nat) : Int) = (s : Int) % 256 := by omega
  simp only [byv, Cod.four, List.map_cons, List.map_nil, e, e2, e3, e4]
theorem own_sum {w : World} {base : Nat} (hb : base ≤ w.heap.size) (s : Nat) (h : s < 4294967296) : (w.alloc (.cells #[.int .u8 ((s : Int) / 16777216), .int .u8 ((s : Int) / 65536 % 256), .int .u8 ((s : Int) / 256 % 256), .int .u8 ((s : Int) % 256)] 5)).ownsRow base 5 1 (.slice (some ⟨w.heap.size, 0, none⟩) 4 4) 4 (byv (Cod.four s)) := by
  rw [four_byv s h]
  exact World.ownsRow_lit w #[.int .u8 ((s : Int) / 16777216), .int .u8 ((s : Int) / 65536 % 256), .int .u8 ((s : Int) / 256 % 256), .int .u8 ((s : Int) % 256)] 4 hb (by unfold maxLen; omega) rfl
theorem head_eq (kind : Int) (bs : List Nat) (y : Nat) (h : Cod.clamp kind = y) : byv [y] ++ byv (Cod.put bs.length) ++ byv bs = byv (Cod.head kind bs) := by
  unfold Cod.head; rw [h, ← byv_app, ← byv_app]; simp
set_option maxRecDepth 100000 in
set_option maxHeartbeats 1000000 in
theorem sealed_p (A : Option Addr) (c : Nat) (bs : List Nat) (w : World) (h : RdB w A c bs) (hlt : ∀ x ∈ bs, x < 256) :
    Calls Try.prog 42 #[.slice A bs.length c] w (PutR (Cod.four (Cod.sum bs)) w) := by
  have HC := Lib.hid (sum_p A c bs w h hlt)
  have hs := Cod.sum_lt bs hlt
  clear h hlt
  obtain ⟨s, hS⟩ : ∃ s, s = Cod.sum bs := ⟨_, rfl⟩
  rw [← hS] at HC hs ⊢
  clear hS
  go_enter Try.func42, Try.ntmps42
  go_wp2_with fail
  refine HC.out.mono ?_
  rintro e w1 ⟨rfl, rfl⟩
  go_wp2_with fail
  go_ret
  exact ⟨some ⟨w.heap.size, 0, none⟩, 4, rfl, own_sum (Nat.le_refl _) s hs, (Below.refl _ _).alloc (Nat.le_refl _) _⟩
set_option maxRecDepth 100000 in
set_option maxHeartbeats 4000000 in
theorem seal_p (kind : Int) (A : Option Addr) (c : Nat) (bs : List Nat) (w : World) (h : RdB w A c bs) (hlt : ∀ x ∈ bs, x < 256) (hl : bs.length ≤ 1000000) (k1 : -9223372036854775808 ≤ kind) (k2 : kind ≤ 9223372036854775807) :
    Calls Try.prog 31 #[.int .i64 kind, .slice A bs.length c] w (PutR (Cod.frm kind bs) w) := by
  have hm := h.len
  have HR := Lib.hid h
  have HLT := Lib.hid (Cod.head_lt kind bs hlt)
  have HN := Lib.hid (Cod.head_len kind bs)
  have HFL := Lib.hid (Cod.seal_len kind bs)
  have hpl := Cod.put_le (n := bs.length) ⟨by omega, by omega⟩
  clear h hlt
  have hcase : 255 < kind ∨ kind < 0 ∨ kind = 255 ∨ kind = 0 ∨ ∃ m : Nat, kind = m ∧ 0 < m ∧ m < 255 := by
    by_cases h1 : 255 < kind
    · exact .inl h1
    · by_cases h2 : kind < 0
      · exact .inr (.inl h2)
      · by_cases h3 : kind = 255
        · exact .inr (.inr (.inl h3))
        · by_cases h4 : kind = 0
          · exact .inr (.inr (.inr (.inl h4)))
          · exact .inr (.inr (.inr (.inr ⟨kind.toNat, by omega, by omega, by omega⟩)))
  rcases hcase with hk | hk | rfl | rfl | ⟨m, rfl, hk, hk'⟩
  · have HY : Hid (Cod.clamp kind = 255) := Lib.hid (by first | rfl | (unfold Cod.clamp; omega))
    have HEAD := Lib.hid (head_eq kind bs 255 HY.out)
    obtain ⟨p, hp⟩ : ∃ p, p = Cod.put bs.length := ⟨_, rfl⟩
    obtain ⟨hd, hhd⟩ : ∃ hd, hd = Cod.head kind bs := ⟨_, rfl⟩
    have HF : Hid (Cod.frm kind bs = hd ++ Cod.four (Cod.sum hd)) := Lib.hid (by rw [hhd]; rfl)
    rw [← hp] at hpl HN HEAD HFL
    rw [← hhd] at HN HEAD HLT
    have HP := Lib.hid hp
    clear hhd hp
    have hpl' := hpl
    go_enter Try.func31, Try.ntmps31
    go_wp2_with fail
    refine (putInt_p (bs.length : Int) _ (by omega) (by omega)).mono ?_
    rintro e w2 ⟨A2, c2, rfl, ho2, hb2⟩
    rw [← HP.out] at ho2 ⊢
    have HO1 := Lib.hid (own_keep (own_one (w := w) (base := w.heap.size) (Nat.le_refl _) 255) hb2)
    have HV2 := Lib.hid (own_rdv ho2 (by omega)).2
    have hbel2 : Below w.heap.size w w2 := ((Below.refl w.heap.size w).alloc (Nat.le_refl _) _).trans (hb2.mono (by simp))
    have hbz2 := hbel2.size
    have HRB := Lib.hid (HR.out.keep hbel2).vals
    clear ho2 hb2
    go_wp2_with (first | (at_builtin; refine appN rfl (.tmp 11) (.tmp 14) 22 5 _ _ rfl Try.underlying22 info5 rfl (by decide) rfl rfl (byv_len _) HO1.out HV2.out (byv_one _) (by omega) hbz2 ?_; intro v3 w3 hown3 hb3 hsz3; obtain ⟨E3, g3, rfl⟩ := own_slice hown3; have HO3 := Lib.hid hown3; have HB3 := Lib.hid (hb3 _ _ (Nat.le_refl _) hbel2); clear hown3 hb3) | (at_builtin; refine appN rfl (.tmp 16) (.tmp 17) 22 5 _ _ rfl Try.underlying22 info5 rfl (by decide) rfl rfl (byv_len _) HO3.out (HR.out.keep HB3.out).vals (byv_one _) (by omega) hsz3 ?_; intro v4 w4 hown4 hb4 hsz4; obtain ⟨E4, g4, rfl⟩ := own_slice hown4; have HO4 := Lib.hid hown4; have HB4 := Lib.hid (hb4 _ _ (Nat.le_refl _) HB3.out); clear hown4 hb4))
    have hown := HO4.out
    rw [HEAD.out] at hown
    have HO5 := Lib.hid hown
    have hnn : 1 + p.length + bs.length ≤ 2000000 := by omega
    have hrd := (own_rdb hown (by omega)).2
    have hC := sealed_p E4 g4 hd w4 hrd HLT.out
    rw [HN.out] at hC
    have HC := Lib.hid hC
    clear hown hrd hC
    refine HC.out.mono ?_
    rintro e w5 ⟨A5, c5, rfl, ho5, hb5⟩
    have HV5 := Lib.hid (own_rdv ho5 (by rw [Cod.four_len]; omega)).2
    have HO6 := Lib.hid (own_keep HO5.out hb5)
    have hbel5 := HB4.out.trans (hb5.mono hsz4)
    have hbz5 := hbel5.size
    have hfl : (Cod.four (Cod.sum hd)).length = 4 := Cod.four_len _
    rw [hfl]
    clear ho5 hb5 hfl
    go_wp2_with (at_builtin; refine appN rfl (.tmp 19) (.tmp 21) 22 5 _ _ rfl Try.underlying22 info5 rfl (by decide) rfl rfl (by rw [byv_len]; rfl) HO6.out HV5.out (byv_one _) (by omega) hbz5 ?_; intro v6 w6 hown6 hb6 hsz6; obtain ⟨E6, g6, rfl⟩ := own_slice hown6; have HB6 := Lib.hid (hb6 _ _ (Nat.le_refl _) hbel5); clear hb6)
    go_ret
    refine ⟨E6, g6, ?_, ?_, HB6.out⟩
    · rw [HFL.out]; rfl
    · rw [HFL.out, HF.out, byv_app]; exact hown6
  · have HY : Hid (Cod.clamp kind = 0) := Lib.hid (by first | rfl | (unfold Cod.clamp; omega))
    have HEAD := Lib.hid (head_eq kind bs 0 HY.out)
    obtain ⟨p, hp⟩ : ∃ p, p = Cod.put bs.length := ⟨_, rfl⟩
    obtain ⟨hd, hhd⟩ : ∃ hd, hd = Cod.head kind bs := ⟨_, rfl⟩
    have HF : Hid (Cod.frm kind bs = hd ++ Cod.four (Cod.sum hd)) := Lib.hid (by rw [hhd]; rfl)
    rw [← hp] at hpl HN HEAD HFL
    rw [← hhd] at HN HEAD HLT
    have HP := Lib.hid hp
    clear hhd hp
    have hpl' := hpl
    go_enter Try.func31, Try.ntmps31
    go_wp2_with fail
    refine (putInt_p (bs.length : Int) _ (by omega) (by omega)).mono ?_
    rintro e w2 ⟨A2, c2, rfl, ho2, hb2⟩
    rw [← HP.out] at ho2 ⊢
    have HO1 := Lib.hid (own_keep (own_one (w := w) (base := w.heap.size) (Nat.le_refl _) 0) hb2)
    have HV2 := Lib.hid (own_rdv ho2 (by omega)).2
    have hbel2 : Below w.heap.size w w2 := ((Below.refl w.heap.size w).alloc (Nat.le_refl _) _).trans (hb2.mono (by simp))
    have hbz2 := hbel2.size
    have HRB := Lib.hid (HR.out.keep hbel2).vals
    clear ho2 hb2
    go_wp2_with (first | (at_builtin; refine appN rfl (.tmp 11) (.tmp 14) 22 5 _ _ rfl Try.underlying22 info5 rfl (by decide) rfl rfl (byv_len _) HO1.out HV2.out (byv_one _) (by omega) hbz2 ?_; intro v3 w3 hown3 hb3 hsz3; obtain ⟨E3, g3, rfl⟩ := own_slice hown3; have HO3 := Lib.hid hown3; have HB3 := Lib.hid (hb3 _ _ (Nat.le_refl _) hbel2); clear hown3 hb3) | (at_builtin; refine appN rfl (.tmp 16) (.tmp 17) 22 5 _ _ rfl Try.underlying22 info5 rfl (by decide) rfl rfl (byv_len _) HO3.out (HR.out.keep HB3.out).vals (byv_one _) (by omega) hsz3 ?_; intro v4 w4 hown4 hb4 hsz4; obtain ⟨E4, g4, rfl⟩ := own_slice hown4; have HO4 := Lib.hid hown4; have HB4 := Lib.hid (hb4 _ _ (Nat.le_refl _) HB3.out); clear hown4 hb4))
    have hown := HO4.out
    rw [HEAD.out] at hown
    have HO5 := Lib.hid hown
    have hnn : 1 + p.length + bs.length ≤ 2000000 := by omega
    have hrd := (own_rdb hown (by omega)).2
    have hC := sealed_p E4 g4 hd w4 hrd HLT.out
    rw [HN.out] at hC
    have HC := Lib.hid hC
    clear hown hrd hC
    refine HC.out.mono ?_
    rintro e w5 ⟨A5, c5, rfl, ho5, hb5⟩
    have HV5 := Lib.hid (own_rdv ho5 (by rw [Cod.four_len]; omega)).2
    have HO6 := Lib.hid (own_keep HO5.out hb5)
    have hbel5 := HB4.out.trans (hb5.mono hsz4)
    have hbz5 := hbel5.size
    have hfl : (Cod.four (Cod.sum hd)).length = 4 := Cod.four_len _
    rw [hfl]
    clear ho5 hb5 hfl
    go_wp2_with (at_builtin; refine appN rfl (.tmp 19) (.tmp 21) 22 5 _ _ rfl Try.underlying22 info5 rfl (by decide) rfl rfl (by rw [byv_len]; rfl) HO6.out HV5.out (byv_one _) (by omega) hbz5 ?_; intro v6 w6 hown6 hb6 hsz6; obtain ⟨E6, g6, rfl⟩ := own_slice hown6; have HB6 := Lib.hid (hb6 _ _ (Nat.le_refl _) hbel5); clear hb6)
    go_ret
    refine ⟨E6, g6, ?_, ?_, HB6.out⟩
    · rw [HFL.out]; rfl
    · rw [HFL.out, HF.out, byv_app]; exact hown6
  · have HY : Hid (Cod.clamp 255 = 255) := Lib.hid (by first | rfl | (unfold Cod.clamp; omega))
    have HEAD := Lib.hid (head_eq 255 bs 255 HY.out)
    obtain ⟨p, hp⟩ : ∃ p, p = Cod.put bs.length := ⟨_, rfl⟩
    obtain ⟨hd, hhd⟩ : ∃ hd, hd = Cod.head 255 bs := ⟨_, rfl⟩
    have HF : Hid (Cod.frm 255 bs = hd ++ Cod.four (Cod.sum hd)) := Lib.hid (by rw [hhd]; rfl)
    rw [← hp] at hpl HN HEAD HFL
    rw [← hhd] at HN HEAD HLT
    have HP := Lib.hid hp
    clear hhd hp
    have hpl' := hpl
    go_enter Try.func31, Try.ntmps31
    go_wp2_with fail
    refine (putInt_p (bs.length : Int) _ (by omega) (by omega)).mono ?_
    rintro e w2 ⟨A2, c2, rfl, ho2, hb2⟩
    rw [← HP.out] at ho2 ⊢
    have HO1 := Lib.hid (own_keep (own_one (w := w) (base := w.heap.size) (Nat.le_refl _) 255) hb2)
    have HV2 := Lib.hid (own_rdv ho2 (by omega)).2
    have hbel2 : Below w.heap.size w w2 := ((Below.refl w.heap.size w).alloc (Nat.le_refl _) _).trans (hb2.mono (by simp))
    have hbz2 := hbel2.size
    have HRB := Lib.hid (HR.out.keep hbel2).vals
    clear ho2 hb2
    go_wp2_with (first | (at_builtin; refine appN rfl (.tmp 11) (.tmp 14) 22 5 _ _ rfl Try.underlying22 info5 rfl (by decide) rfl rfl (byv_len _) HO1.out HV2.out (byv_one _) (by omega) hbz2 ?_; intro v3 w3 hown3 hb3 hsz3; obtain ⟨E3, g3, rfl⟩ := own_slice hown3; have HO3 := Lib.hid hown3; have HB3 := Lib.hid (hb3 _ _ (Nat.le_refl _) hbel2); clear hown3 hb3) | (at_builtin; refine appN rfl (.tmp 16) (.tmp 17) 22 5 _ _ rfl Try.underlying22 info5 rfl (by decide) rfl rfl (byv_len _) HO3.out (HR.out.keep HB3.out).vals (byv_one _) (by omega) hsz3 ?_; intro v4 w4 hown4 hb4 hsz4; obtain ⟨E4, g4, rfl⟩ := own_slice hown4; have HO4 := Lib.hid hown4; have HB4 := Lib.hid (hb4 _ _ (Nat.le_refl _) HB3.out); clear hown4 hb4))
    have hown := HO4.out
    rw [HEAD.out] at hown
    have HO5 := Lib.hid hown
    have hnn : 1 + p.length + bs.length ≤ 2000000 := by omega
    have hrd := (own_rdb hown (by omega)).2
    have hC := sealed_p E4 g4 hd w4 hrd HLT.out
    rw [HN.out] at hC
    have HC := Lib.hid hC
    clear hown hrd hC
    refine HC.out.mono ?_
    rintro e w5 ⟨A5, c5, rfl, ho5, hb5⟩
    have HV5 := Lib.hid (own_rdv ho5 (by rw [Cod.four_len]; omega)).2
    have HO6 := Lib.hid (own_keep HO5.out hb5)
    have hbel5 := HB4.out.trans (hb5.mono hsz4)
    have hbz5 := hbel5.size
    have hfl : (Cod.four (Cod.sum hd)).length = 4 := Cod.four_len _
    rw [hfl]
    clear ho5 hb5 hfl
    go_wp2_with (at_builtin; refine appN rfl (.tmp 19) (.tmp 21) 22 5 _ _ rfl Try.underlying22 info5 rfl (by decide) rfl rfl (by rw [byv_len]; rfl) HO6.out HV5.out (byv_one _) (by omega) hbz5 ?_; intro v6 w6 hown6 hb6 hsz6; obtain ⟨E6, g6, rfl⟩ := own_slice hown6; have HB6 := Lib.hid (hb6 _ _ (Nat.le_refl _) hbel5); clear hb6)
    go_ret
    refine ⟨E6, g6, ?_, ?_, HB6.out⟩
    · rw [HFL.out]; rfl
    · rw [HFL.out, HF.out, byv_app]; exact hown6
  · have HY : Hid (Cod.clamp 0 = 0) := Lib.hid (by first | rfl | (unfold Cod.clamp; omega))
    have HEAD := Lib.hid (head_eq 0 bs 0 HY.out)
    obtain ⟨p, hp⟩ : ∃ p, p = Cod.put bs.length := ⟨_, rfl⟩
    obtain ⟨hd, hhd⟩ : ∃ hd, hd = Cod.head 0 bs := ⟨_, rfl⟩
    have HF : Hid (Cod.frm 0 bs = hd ++ Cod.four (Cod.sum hd)) := Lib.hid (by rw [hhd]; rfl)
    rw [← hp] at hpl HN HEAD HFL
    rw [← hhd] at HN HEAD HLT
    have HP := Lib.hid hp
    clear hhd hp
    have hpl' := hpl
    go_enter Try.func31, Try.ntmps31
    go_wp2_with fail
    refine (putInt_p (bs.length : Int) _ (by omega) (by omega)).mono ?_
    rintro e w2 ⟨A2, c2, rfl, ho2, hb2⟩
    rw [← HP.out] at ho2 ⊢
    have HO1 := Lib.hid (own_keep (own_one (w := w) (base := w.heap.size) (Nat.le_refl _) 0) hb2)
    have HV2 := Lib.hid (own_rdv ho2 (by omega)).2
    have hbel2 : Below w.heap.size w w2 := ((Below.refl w.heap.size w).alloc (Nat.le_refl _) _).trans (hb2.mono (by simp))
    have hbz2 := hbel2.size
    have HRB := Lib.hid (HR.out.keep hbel2).vals
    clear ho2 hb2
    go_wp2_with (first | (at_builtin; refine appN rfl (.tmp 11) (.tmp 14) 22 5 _ _ rfl Try.underlying22 info5 rfl (by decide) rfl rfl (byv_len _) HO1.out HV2.out (byv_one _) (by omega) hbz2 ?_; intro v3 w3 hown3 hb3 hsz3; obtain ⟨E3, g3, rfl⟩ := own_slice hown3; have HO3 := Lib.hid hown3; have HB3 := Lib.hid (hb3 _ _ (Nat.le_refl _) hbel2); clear hown3 hb3) | (at_builtin; refine appN rfl (.tmp 16) (.tmp 17) 22 5 _ _ rfl Try.underlying22 info5 rfl (by decide) rfl rfl (byv_len _) HO3.out (HR.out.keep HB3.out).vals (byv_one _) (by omega) hsz3 ?_; intro v4 w4 hown4 hb4 hsz4; obtain ⟨E4, g4, rfl⟩ := own_slice hown4; have HO4 := Lib.hid hown4; have HB4 := Lib.hid (hb4 _ _ (Nat.le_refl _) HB3.out); clear hown4 hb4))
    have hown := HO4.out
    rw [HEAD.out] at hown
    have HO5 := Lib.hid hown
    have hnn : 1 + p.length + bs.length ≤ 2000000 := by omega
    have hrd := (own_rdb hown (by omega)).2
    have hC := sealed_p E4 g4 hd w4 hrd HLT.out
    rw [HN.out] at hC
    have HC := Lib.hid hC
    clear hown hrd hC
    refine HC.out.mono ?_
    rintro e w5 ⟨A5, c5, rfl, ho5, hb5⟩
    have HV5 := Lib.hid (own_rdv ho5 (by rw [Cod.four_len]; omega)).2
    have HO6 := Lib.hid (own_keep HO5.out hb5)
    have hbel5 := HB4.out.trans (hb5.mono hsz4)
    have hbz5 := hbel5.size
    have hfl : (Cod.four (Cod.sum hd)).length = 4 := Cod.four_len _
    rw [hfl]
    clear ho5 hb5 hfl
    go_wp2_with (at_builtin; refine appN rfl (.tmp 19) (.tmp 21) 22 5 _ _ rfl Try.underlying22 info5 rfl (by decide) rfl rfl (by rw [byv_len]; rfl) HO6.out HV5.out (byv_one _) (by omega) hbz5 ?_; intro v6 w6 hown6 hb6 hsz6; obtain ⟨E6, g6, rfl⟩ := own_slice hown6; have HB6 := Lib.hid (hb6 _ _ (Nat.le_refl _) hbel5); clear hb6)
    go_ret
    refine ⟨E6, g6, ?_, ?_, HB6.out⟩
    · rw [HFL.out]; rfl
    · rw [HFL.out, HF.out, byv_app]; exact hown6
  · have HY : Hid (Cod.clamp (m : Int) = m) := Lib.hid (by first | rfl | (unfold Cod.clamp; omega))
    have HEAD := Lib.hid (head_eq (m : Int) bs m HY.out)
    obtain ⟨p, hp⟩ : ∃ p, p = Cod.put bs.length := ⟨_, rfl⟩
    obtain ⟨hd, hhd⟩ : ∃ hd, hd = Cod.head (m : Int) bs := ⟨_, rfl⟩
    have HF : Hid (Cod.frm (m : Int) bs = hd ++ Cod.four (Cod.sum hd)) := Lib.hid (by rw [hhd]; rfl)
    rw [← hp] at hpl HN HEAD HFL
    rw [← hhd] at HN HEAD HLT
    have HP := Lib.hid hp
    clear hhd hp
    have hpl' := hpl
    go_enter Try.func31, Try.ntmps31
    go_wp2_with fail
    refine (putInt_p (bs.length : Int) _ (by omega) (by omega)).mono ?_
    rintro e w2 ⟨A2, c2, rfl, ho2, hb2⟩
    rw [← HP.out] at ho2 ⊢
    have HO1 := Lib.hid (own_keep (own_one (w := w) (base := w.heap.size) (Nat.le_refl _) m) hb2)
    have HV2 := Lib.hid (own_rdv ho2 (by omega)).2
    have hbel2 : Below w.heap.size w w2 := ((Below.refl w.heap.size w).alloc (Nat.le_refl _) _).trans (hb2.mono (by simp))
    have hbz2 := hbel2.size
    have HRB := Lib.hid (HR.out.keep hbel2).vals
    clear ho2 hb2
    go_wp2_with (first | (at_builtin; refine appN rfl (.tmp 11) (.tmp 14) 22 5 _ _ rfl Try.underlying22 info5 rfl (by decide) rfl rfl (byv_len _) HO1.out HV2.out (byv_one _) (by omega) hbz2 ?_; intro v3 w3 hown3 hb3 hsz3; obtain ⟨E3, g3, rfl⟩ := own_slice hown3; have HO3 := Lib.hid hown3; have HB3 := Lib.hid (hb3 _ _ (Nat.le_refl _) hbel2); clear hown3 hb3) | (at_builtin; refine appN rfl (.tmp 16) (.tmp 17) 22 5 _ _ rfl Try.underlying22 info5 rfl (by decide) rfl rfl (byv_len _) HO3.out (HR.out.keep HB3.out).vals (byv_one _) (by omega) hsz3 ?_; intro v4 w4 hown4 hb4 hsz4; obtain ⟨E4, g4, rfl⟩ := own_slice hown4; have HO4 := Lib.hid hown4; have HB4 := Lib.hid (hb4 _ _ (Nat.le_refl _) HB3.out); clear hown4 hb4))
    have hown := HO4.out
    rw [HEAD.out] at hown
    have HO5 := Lib.hid hown
    have hnn : 1 + p.length + bs.length ≤ 2000000 := by omega
    have hrd := (own_rdb hown (by omega)).2
    have hC := sealed_p E4 g4 hd w4 hrd HLT.out
    rw [HN.out] at hC
    have HC := Lib.hid hC
    clear hown hrd hC
    refine HC.out.mono ?_
    rintro e w5 ⟨A5, c5, rfl, ho5, hb5⟩
    have HV5 := Lib.hid (own_rdv ho5 (by rw [Cod.four_len]; omega)).2
    have HO6 := Lib.hid (own_keep HO5.out hb5)
    have hbel5 := HB4.out.trans (hb5.mono hsz4)
    have hbz5 := hbel5.size
    have hfl : (Cod.four (Cod.sum hd)).length = 4 := Cod.four_len _
    rw [hfl]
    clear ho5 hb5 hfl
    go_wp2_with (at_builtin; refine appN rfl (.tmp 19) (.tmp 21) 22 5 _ _ rfl Try.underlying22 info5 rfl (by decide) rfl rfl (by rw [byv_len]; rfl) HO6.out HV5.out (byv_one _) (by omega) hbz5 ?_; intro v6 w6 hown6 hb6 hsz6; obtain ⟨E6, g6, rfl⟩ := own_slice hown6; have HB6 := Lib.hid (hb6 _ _ (Nat.le_refl _) hbel5); clear hb6)
    go_ret
    refine ⟨E6, g6, ?_, ?_, HB6.out⟩
    · rw [HFL.out]; rfl
    · rw [HFL.out, HF.out, byv_app]; exact hown6
set_option maxRecDepth 100000 in
set_option maxHeartbeats 4000000 in
theorem seal_r (kind : Int) (A : Option Addr) (c : Nat) (bs : List Nat) (w : World) (h : RdB w A c bs) (hlt : ∀ x ∈ bs, x < 256) (hl : bs.length ≤ 1000000) (k1 : -9223372036854775808 ≤ kind) (k2 : kind ≤ 9223372036854775807) :
    Calls Try.prog 32 #[.int .i64 kind, .slice A bs.length c] w (PutR (Cod.frm kind bs) w) := by
  have hm := h.len
  have HR := Lib.hid h
  have HLT := Lib.hid (Cod.head_lt kind bs hlt)
  have HN := Lib.hid (Cod.head_len kind bs)
  have HFL := Lib.hid (Cod.seal_len kind bs)
  have hpl := Cod.put_le (n := bs.length) ⟨by omega, by omega⟩
  clear h hlt
  have hcase : 255 < kind ∨ kind < 0 ∨ kind = 255 ∨ kind = 0 ∨ ∃ m : Nat, kind = m ∧ 0 < m ∧ m < 255 := by
    by_cases h1 : 255 < kind
    · exact .inl h1
    · by_cases h2 : kind < 0
      · exact .inr (.inl h2)
      · by_cases h3 : kind = 255
        · exact .inr (.inr (.inl h3))
        · by_cases h4 : kind = 0
          · exact .inr (.inr (.inr (.inl h4)))
          · exact .inr (.inr (.inr (.inr ⟨kind.toNat, by omega, by omega, by omega⟩)))
  rcases hcase with hk | hk | rfl | rfl | ⟨m, rfl, hk, hk'⟩
  · have HY : Hid (Cod.clamp kind = 255) := Lib.hid (by first | rfl | (unfold Cod.clamp; omega))
    have HEAD := Lib.hid (head_eq kind bs 255 HY.out)
    obtain ⟨p, hp⟩ : ∃ p, p = Cod.put bs.length := ⟨_, rfl⟩
    obtain ⟨hd, hhd⟩ : ∃ hd, hd = Cod.head kind bs := ⟨_, rfl⟩
    have HF : Hid (Cod.frm kind bs = hd ++ Cod.four (Cod.sum hd)) := Lib.hid (by rw [hhd]; rfl)
    rw [← hp] at hpl HN HEAD HFL
    rw [← hhd] at HN HEAD HLT
    have HP := Lib.hid hp
    clear hhd hp
    have hpl' := hpl
    go_enter Try.func32, Try.ntmps32
    go_wp2_with fail
    refine (putInt_r (bs.length : Int) _ (by omega) (by omega)).mono ?_
    rintro e w2 ⟨A2, c2, rfl, ho2, hb2⟩
    rw [← HP.out] at ho2 ⊢
    have HO1 := Lib.hid (own_keep (own_one (w := w) (base := w.heap.size) (Nat.le_refl _) 255) hb2)
    have HV2 := Lib.hid (own_rdv ho2 (by omega)).2
    have hbel2 : Below w.heap.size w w2 := ((Below.refl w.heap.size w).alloc (Nat.le_refl _) _).trans (hb2.mono (by simp))
    have hbz2 := hbel2.size
    have HRB := Lib.hid (HR.out.keep hbel2).vals
    clear ho2 hb2
    go_wp2_with (first | (at_builtin; refine appN rfl (.tmp 12) (.tmp 15) 22 5 _ _ rfl Try.underlying22 info5 rfl (by decide) rfl rfl (byv_len _) HO1.out HV2.out (byv_one _) (by omega) hbz2 ?_; intro v3 w3 hown3 hb3 hsz3; obtain ⟨E3, g3, rfl⟩ := own_slice hown3; have HO3 := Lib.hid hown3; have HB3 := Lib.hid (hb3 _ _ (Nat.le_refl _) hbel2); clear hown3 hb3) | (at_builtin; refine appN rfl (.tmp 17) (.tmp 18) 22 5 _ _ rfl Try.underlying22 info5 rfl (by decide) rfl rfl (byv_len _) HO3.out (HR.out.keep HB3.out).vals (byv_one _) (by omega) hsz3 ?_; intro v4 w4 hown4 hb4 hsz4; obtain ⟨E4, g4, rfl⟩ := own_slice hown4; have HO4 := Lib.hid hown4; have HB4 := Lib.hid (hb4 _ _ (Nat.le_refl _) HB3.out); clear hown4 hb4))
    have hown := HO4.out
    rw [HEAD.out] at hown
    have HO5 := Lib.hid hown
    have hnn : 1 + p.length + bs.length ≤ 2000000 := by omega
    have hrd := (own_rdb hown (by omega)).2
    have hC := sum_r E4 g4 hd w4 hrd HLT.out
    rw [HN.out] at hC
    have HC := Lib.hid hC
    clear hown hrd hC
    refine HC.out.mono ?_
    rintro e w5 ⟨rfl, rfl⟩
    have hs := Cod.sum_lt hd HLT.out
    obtain ⟨s, hS⟩ : ∃ s, s = Cod.sum hd := ⟨_, rfl⟩
    rw [← hS] at hs HF ⊢
    have HOS := Lib.hid (own_sum (base := w.heap.size) HB4.out.size s hs)
    have HO6 := Lib.hid (HO5.out.alloc (.cells #[.int .u8 ((s : Int) / 16777216), .int .u8 ((s : Int) / 65536 % 256), .int .u8 ((s : Int) / 256 % 256), .int .u8 ((s : Int) % 256)] 5))
    have HV5 := Lib.hid (own_rdv HOS.out (by omega)).2
    clear hS
    have hbel5 := HB4.out.alloc HB4.out.size (.cells #[.int .u8 ((s : Int) / 16777216), .int .u8 ((s : Int) / 65536 % 256), .int .u8 ((s : Int) / 256 % 256), .int .u8 ((s : Int) % 256)] 5)
    have hbz5 := hbel5.size
    clear HC
    go_wp2_with (at_builtin; refine appN rfl (.tmp 22) (.tmp 34) 22 5 _ _ rfl Try.underlying22 info5 rfl (by decide) rfl rfl (by rw [byv_len]; rfl) HO6.out HV5.out (byv_one _) (by omega) hbz5 ?_; intro v6 w6 hown6 hb6 hsz6; obtain ⟨E6, g6, rfl⟩ := own_slice hown6; have HB6 := Lib.hid (hb6 _ _ (Nat.le_refl _) hbel5); clear hb6)
    go_ret
    refine ⟨E6, g6, ?_, ?_, HB6.out⟩
    · rw [HFL.out]; rfl
    · rw [HFL.out, HF.out, byv_app]; exact hown6
  · have HY : Hid (Cod.clamp kind = 0) := Lib.hid (by first | rfl | (unfold Cod.clamp; omega))
    have HEAD := Lib.hid (head_eq kind bs 0 HY.out)
    obtain ⟨p, hp⟩ : ∃ p, p = Cod.put bs.length := ⟨_, rfl⟩
    obtain ⟨hd, hhd⟩ : ∃ hd, hd = Cod.head kind bs := ⟨_, rfl⟩
    have HF : Hid (Cod.frm kind bs = hd ++ Cod.four (Cod.sum hd)) := Lib.hid (by rw [hhd]; rfl)
    rw [← hp] at hpl HN HEAD HFL
    rw [← hhd] at HN HEAD HLT
    have HP := Lib.hid hp
    clear hhd hp
    have hpl' := hpl
    go_enter Try.func32, Try.ntmps32
    go_wp2_with fail
    refine (putInt_r (bs.length : Int) _ (by omega) (by omega)).mono ?_
    rintro e w2 ⟨A2, c2, rfl, ho2, hb2⟩
    rw [← HP.out] at ho2 ⊢
    have HO1 := Lib.hid (own_keep (own_one (w := w) (base := w.heap.size) (Nat.le_refl _) 0) hb2)
    have HV2 := Lib.hid (own_rdv ho2 (by omega)).2
    have hbel2 : Below w.heap.size w w2 := ((Below.refl w.heap.size w).alloc (Nat.le_refl _) _).trans (hb2.mono (by simp))
    have hbz2 := hbel2.size
    have HRB := Lib.hid (HR.out.keep hbel2).vals
    clear ho2 hb2
    go_wp2_with (first | (at_builtin; refine appN rfl (.tmp 12) (.tmp 15) 22 5 _ _ rfl Try.underlying22 info5 rfl (by decide) rfl rfl (byv_len _) HO1.out HV2.out (byv_one _) (by omega) hbz2 ?_; intro v3 w3 hown3 hb3 hsz3; obtain ⟨E3, g3, rfl⟩ := own_slice hown3; have HO3 := Lib.hid hown3; have HB3 := Lib.hid (hb3 _ _ (Nat.le_refl _) hbel2); clear hown3 hb3) | (at_builtin; refine appN rfl (.tmp 17) (.tmp 18) 22 5 _ _ rfl Try.underlying22 info5 rfl (by decide) rfl rfl (byv_len _) HO3.out (HR.out.keep HB3.out).vals (byv_one _) (by omega) hsz3 ?_; intro v4 w4 hown4 hb4 hsz4; obtain ⟨E4, g4, rfl⟩ := own_slice hown4; have HO4 := Lib.hid hown4; have HB4 := Lib.hid (hb4 _ _ (Nat.le_refl _) HB3.out); clear hown4 hb4))
    have hown := HO4.out
    rw [HEAD.out] at hown
    have HO5 := Lib.hid hown
    have hnn : 1 + p.length + bs.length ≤ 2000000 := by omega
    have hrd := (own_rdb hown (by omega)).2
    have hC := sum_r E4 g4 hd w4 hrd HLT.out
    rw [HN.out] at hC
    have HC := Lib.hid hC
    clear hown hrd hC
    refine HC.out.mono ?_
    rintro e w5 ⟨rfl, rfl⟩
    have hs := Cod.sum_lt hd HLT.out
    obtain ⟨s, hS⟩ : ∃ s, s = Cod.sum hd := ⟨_, rfl⟩
    rw [← hS] at hs HF ⊢
    have HOS := Lib.hid (own_sum (base := w.heap.size) HB4.out.size s hs)
    have HO6 := Lib.hid (HO5.out.alloc (.cells #[.int .u8 ((s : Int) / 16777216), .int .u8 ((s : Int) / 65536 % 256), .int .u8 ((s : Int) / 256 % 256), .int .u8 ((s : Int) % 256)] 5))
    have HV5 := Lib.hid (own_rdv HOS.out (by omega)).2
    clear hS
    have hbel5 := HB4.out.alloc HB4.out.size (.cells #[.int .u8 ((s : Int) / 16777216), .int .u8 ((s : Int) / 65536 % 256), .int .u8 ((s : Int) / 256 % 256), .int .u8 ((s : Int) % 256)] 5)
    have hbz5 := hbel5.size
    clear HC
    go_wp2_with (at_builtin; refine appN rfl (.tmp 22) (.tmp 34) 22 5 _ _ rfl Try.underlying22 info5 rfl (by decide) rfl rfl (by rw [byv_len]; rfl) HO6.out HV5.out (byv_one _) (by omega) hbz5 ?_; intro v6 w6 hown6 hb6 hsz6; obtain ⟨E6, g6, rfl⟩ := own_slice hown6; have HB6 := Lib.hid (hb6 _ _ (Nat.le_refl _) hbel5); clear hb6)
    go_ret
    refine ⟨E6, g6, ?_, ?_, HB6.out⟩
    · rw [HFL.out]; rfl
    · rw [HFL.out, HF.out, byv_app]; exact hown6
  · have HY : Hid (Cod.clamp 255 = 255) := Lib.hid (by first | rfl | (unfold Cod.clamp; omega))
    have HEAD := Lib.hid (head_eq 255 bs 255 HY.out)
    obtain ⟨p, hp⟩ : ∃ p, p = Cod.put bs.length := ⟨_, rfl⟩
    obtain ⟨hd, hhd⟩ : ∃ hd, hd = Cod.head 255 bs := ⟨_, rfl⟩
    have HF : Hid (Cod.frm 255 bs = hd ++ Cod.four (Cod.sum hd)) := Lib.hid (by rw [hhd]; rfl)
    rw [← hp] at hpl HN HEAD HFL
    rw [← hhd] at HN HEAD HLT
    have HP := Lib.hid hp
    clear hhd hp
    have hpl' := hpl
    go_enter Try.func32, Try.ntmps32
    go_wp2_with fail
    refine (putInt_r (bs.length : Int) _ (by omega) (by omega)).mono ?_
    rintro e w2 ⟨A2, c2, rfl, ho2, hb2⟩
    rw [← HP.out] at ho2 ⊢
    have HO1 := Lib.hid (own_keep (own_one (w := w) (base := w.heap.size) (Nat.le_refl _) 255) hb2)
    have HV2 := Lib.hid (own_rdv ho2 (by omega)).2
    have hbel2 : Below w.heap.size w w2 := ((Below.refl w.heap.size w).alloc (Nat.le_refl _) _).trans (hb2.mono (by simp))
    have hbz2 := hbel2.size
    have HRB := Lib.hid (HR.out.keep hbel2).vals
    clear ho2 hb2
    go_wp2_with (first | (at_builtin; refine appN rfl (.tmp 12) (.tmp 15) 22 5 _ _ rfl Try.underlying22 info5 rfl (by decide) rfl rfl (byv_len _) HO1.out HV2.out (byv_one _) (by omega) hbz2 ?_; intro v3 w3 hown3 hb3 hsz3; obtain ⟨E3, g3, rfl⟩ := own_slice hown3; have HO3 := Lib.hid hown3; have HB3 := Lib.hid (hb3 _ _ (Nat.le_refl _) hbel2); clear hown3 hb3) | (at_builtin; refine appN rfl (.tmp 17) (.tmp 18) 22 5 _ _ rfl Try.underlying22 info5 rfl (by decide) rfl rfl (byv_len _) HO3.out (HR.out.keep HB3.out).vals (byv_one _) (by omega) hsz3 ?_; intro v4 w4 hown4 hb4 hsz4; obtain ⟨E4, g4, rfl⟩ := own_slice hown4; have HO4 := Lib.hid hown4; have HB4 := Lib.hid (hb4 _ _ (Nat.le_refl _) HB3.out); clear hown4 hb4))
    have hown := HO4.out
    rw [HEAD.out] at hown
    have HO5 := Lib.hid hown
    have hnn : 1 + p.length + bs.length ≤ 2000000 := by omega
    have hrd := (own_rdb hown (by omega)).2
    have hC := sum_r E4 g4 hd w4 hrd HLT.out
    rw [HN.out] at hC
    have HC := Lib.hid hC
    clear hown hrd hC
    refine HC.out.mono ?_
    rintro e w5 ⟨rfl, rfl⟩
    have hs := Cod.sum_lt hd HLT.out
    obtain ⟨s, hS⟩ : ∃ s, s = Cod.sum hd := ⟨_, rfl⟩
    rw [← hS] at hs HF ⊢
    have HOS := Lib.hid (own_sum (base := w.heap.size) HB4.out.size s hs)
    have HO6 := Lib.hid (HO5.out.alloc (.cells #[.int .u8 ((s : Int) / 16777216), .int .u8 ((s : Int) / 65536 % 256), .int .u8 ((s : Int) / 256 % 256), .int .u8 ((s : Int) % 256)] 5))
    have HV5 := Lib.hid (own_rdv HOS.out (by omega)).2
    clear hS
    have hbel5 := HB4.out.alloc HB4.out.size (.cells #[.int .u8 ((s : Int) / 16777216), .int .u8 ((s : Int) / 65536 % 256), .int .u8 ((s : Int) / 256 % 256), .int .u8 ((s : Int) % 256)] 5)
    have hbz5 := hbel5.size
    clear HC
    go_wp2_with (at_builtin; refine appN rfl (.tmp 22) (.tmp 34) 22 5 _ _ rfl Try.underlying22 info5 rfl (by decide) rfl rfl (by rw [byv_len]; rfl) HO6.out HV5.out (byv_one _) (by omega) hbz5 ?_; intro v6 w6 hown6 hb6 hsz6; obtain ⟨E6, g6, rfl⟩ := own_slice hown6; have HB6 := Lib.hid (hb6 _ _ (Nat.le_refl _) hbel5); clear hb6)
    go_ret
    refine ⟨E6, g6, ?_, ?_, HB6.out⟩
    · rw [HFL.out]; rfl
    · rw [HFL.out, HF.out, byv_app]; exact hown6
  · have HY : Hid (Cod.clamp 0 = 0) := Lib.hid (by first | rfl | (unfold Cod.clamp; omega))
    have HEAD := Lib.hid (head_eq 0 bs 0 HY.out)
    obtain ⟨p, hp⟩ : ∃ p, p = Cod.put bs.length := ⟨_, rfl⟩
    obtain ⟨hd, hhd⟩ : ∃ hd, hd = Cod.head 0 bs := ⟨_, rfl⟩
    have HF : Hid (Cod.frm 0 bs = hd ++ Cod.four (Cod.sum hd)) := Lib.hid (by rw [hhd]; rfl)
    rw [← hp] at hpl HN HEAD HFL
    rw [← hhd] at HN HEAD HLT
    have HP := Lib.hid hp
    clear hhd hp
    have hpl' := hpl
    go_enter Try.func32, Try.ntmps32
    go_wp2_with fail
    refine (putInt_r (bs.length : Int) _ (by omega) (by omega)).mono ?_
    rintro e w2 ⟨A2, c2, rfl, ho2, hb2⟩
    rw [← HP.out] at ho2 ⊢
    have HO1 := Lib.hid (own_keep (own_one (w := w) (base := w.heap.size) (Nat.le_refl _) 0) hb2)
    have HV2 := Lib.hid (own_rdv ho2 (by omega)).2
    have hbel2 : Below w.heap.size w w2 := ((Below.refl w.heap.size w).alloc (Nat.le_refl _) _).trans (hb2.mono (by simp))
    have hbz2 := hbel2.size
    have HRB := Lib.hid (HR.out.keep hbel2).vals
    clear ho2 hb2
    go_wp2_with (first | (at_builtin; refine appN rfl (.tmp 12) (.tmp 15) 22 5 _ _ rfl Try.underlying22 info5 rfl (by decide) rfl rfl (byv_len _) HO1.out HV2.out (byv_one _) (by omega) hbz2 ?_; intro v3 w3 hown3 hb3 hsz3; obtain ⟨E3, g3, rfl⟩ := own_slice hown3; have HO3 := Lib.hid hown3; have HB3 := Lib.hid (hb3 _ _ (Nat.le_refl _) hbel2); clear hown3 hb3) | (at_builtin; refine appN rfl (.tmp 17) (.tmp 18) 22 5 _ _ rfl Try.underlying22 info5 rfl (by decide) rfl rfl (byv_len _) HO3.out (HR.out.keep HB3.out).vals (byv_one _) (by omega) hsz3 ?_; intro v4 w4 hown4 hb4 hsz4; obtain ⟨E4, g4, rfl⟩ := own_slice hown4; have HO4 := Lib.hid hown4; have HB4 := Lib.hid (hb4 _ _ (Nat.le_refl _) HB3.out); clear hown4 hb4))
    have hown := HO4.out
    rw [HEAD.out] at hown
    have HO5 := Lib.hid hown
    have hnn : 1 + p.length + bs.length ≤ 2000000 := by omega
    have hrd := (own_rdb hown (by omega)).2
    have hC := sum_r E4 g4 hd w4 hrd HLT.out
    rw [HN.out] at hC
    have HC := Lib.hid hC
    clear hown hrd hC
    refine HC.out.mono ?_
    rintro e w5 ⟨rfl, rfl⟩
    have hs := Cod.sum_lt hd HLT.out
    obtain ⟨s, hS⟩ : ∃ s, s = Cod.sum hd := ⟨_, rfl⟩
    rw [← hS] at hs HF ⊢
    have HOS := Lib.hid (own_sum (base := w.heap.size) HB4.out.size s hs)
    have HO6 := Lib.hid (HO5.out.alloc (.cells #[.int .u8 ((s : Int) / 16777216), .int .u8 ((s : Int) / 65536 % 256), .int .u8 ((s : Int) / 256 % 256), .int .u8 ((s : Int) % 256)] 5))
    have HV5 := Lib.hid (own_rdv HOS.out (by omega)).2
    clear hS
    have hbel5 := HB4.out.alloc HB4.out.size (.cells #[.int .u8 ((s : Int) / 16777216), .int .u8 ((s : Int) / 65536 % 256), .int .u8 ((s : Int) / 256 % 256), .int .u8 ((s : Int) % 256)] 5)
    have hbz5 := hbel5.size
    clear HC
    go_wp2_with (at_builtin; refine appN rfl (.tmp 22) (.tmp 34) 22 5 _ _ rfl Try.underlying22 info5 rfl (by decide) rfl rfl (by rw [byv_len]; rfl) HO6.out HV5.out (byv_one _) (by omega) hbz5 ?_; intro v6 w6 hown6 hb6 hsz6; obtain ⟨E6, g6, rfl⟩ := own_slice hown6; have HB6 := Lib.hid (hb6 _ _ (Nat.le_refl _) hbel5); clear hb6)
    go_ret
    refine ⟨E6, g6, ?_, ?_, HB6.out⟩
    · rw [HFL.out]; rfl
    · rw [HFL.out, HF.out, byv_app]; exact hown6
  · have HY : Hid (Cod.clamp (m : Int) = m) := Lib.hid (by first | rfl | (unfold Cod.clamp; omega))
    have HEAD := Lib.hid (head_eq (m : Int) bs m HY.out)
    obtain ⟨p, hp⟩ : ∃ p, p = Cod.put bs.length := ⟨_, rfl⟩
    obtain ⟨hd, hhd⟩ : ∃ hd, hd = Cod.head (m : Int) bs := ⟨_, rfl⟩
    have HF : Hid (Cod.frm (m : Int) bs = hd ++ Cod.four (Cod.sum hd)) := Lib.hid (by rw [hhd]; rfl)
    rw [← hp] at hpl HN HEAD HFL
    rw [← hhd] at HN HEAD HLT
    have HP := Lib.hid hp
    clear hhd hp
    have hpl' := hpl
    go_enter Try.func32, Try.ntmps32
    go_wp2_with fail
    refine (putInt_r (bs.length : Int) _ (by omega) (by omega)).mono ?_
    rintro e w2 ⟨A2, c2, rfl, ho2, hb2⟩
    rw [← HP.out] at ho2 ⊢
    have HO1 := Lib.hid (own_keep (own_one (w := w) (base := w.heap.size) (Nat.le_refl _) m) hb2)
    have HV2 := Lib.hid (own_rdv ho2 (by omega)).2
    have hbel2 : Below w.heap.size w w2 := ((Below.refl w.heap.size w).alloc (Nat.le_refl _) _).trans (hb2.mono (by simp))
    have hbz2 := hbel2.size
    have HRB := Lib.hid (HR.out.keep hbel2).vals
    clear ho2 hb2
    go_wp2_with (first | (at_builtin; refine appN rfl (.tmp 12) (.tmp 15) 22 5 _ _ rfl Try.underlying22 info5 rfl (by decide) rfl rfl (byv_len _) HO1.out HV2.out (byv_one _) (by omega) hbz2 ?_; intro v3 w3 hown3 hb3 hsz3; obtain ⟨E3, g3, rfl⟩ := own_slice hown3; have HO3 := Lib.hid hown3; have HB3 := Lib.hid (hb3 _ _ (Nat.le_refl _) hbel2); clear hown3 hb3) | (at_builtin; refine appN rfl (.tmp 17) (.tmp 18) 22 5 _ _ rfl Try.underlying22 info5 rfl (by decide) rfl rfl (byv_len _) HO3.out (HR.out.keep HB3.out).vals (byv_one _) (by omega) hsz3 ?_; intro v4 w4 hown4 hb4 hsz4; obtain ⟨E4, g4, rfl⟩ := own_slice hown4; have HO4 := Lib.hid hown4; have HB4 := Lib.hid (hb4 _ _ (Nat.le_refl _) HB3.out); clear hown4 hb4))
    have hown := HO4.out
    rw [HEAD.out] at hown
    have HO5 := Lib.hid hown
    have hnn : 1 + p.length + bs.length ≤ 2000000 := by omega
    have hrd := (own_rdb hown (by omega)).2
    have hC := sum_r E4 g4 hd w4 hrd HLT.out
    rw [HN.out] at hC
    have HC := Lib.hid hC
    clear hown hrd hC
    refine HC.out.mono ?_
    rintro e w5 ⟨rfl, rfl⟩
    have hs := Cod.sum_lt hd HLT.out
    obtain ⟨s, hS⟩ : ∃ s, s = Cod.sum hd := ⟨_, rfl⟩
    rw [← hS] at hs HF ⊢
    have HOS := Lib.hid (own_sum (base := w.heap.size) HB4.out.size s hs)
    have HO6 := Lib.hid (HO5.out.alloc (.cells #[.int .u8 ((s : Int) / 16777216), .int .u8 ((s : Int) / 65536 % 256), .int .u8 ((s : Int) / 256 % 256), .int .u8 ((s : Int) % 256)] 5))
    have HV5 := Lib.hid (own_rdv HOS.out (by omega)).2
    clear hS
    have hbel5 := HB4.out.alloc HB4.out.size (.cells #[.int .u8 ((s : Int) / 16777216), .int .u8 ((s : Int) / 65536 % 256), .int .u8 ((s : Int) / 256 % 256), .int .u8 ((s : Int) % 256)] 5)
    have hbz5 := hbel5.size
    clear HC
    go_wp2_with (at_builtin; refine appN rfl (.tmp 22) (.tmp 34) 22 5 _ _ rfl Try.underlying22 info5 rfl (by decide) rfl rfl (by rw [byv_len]; rfl) HO6.out HV5.out (byv_one _) (by omega) hbz5 ?_; intro v6 w6 hown6 hb6 hsz6; obtain ⟨E6, g6, rfl⟩ := own_slice hown6; have HB6 := Lib.hid (hb6 _ _ (Nat.le_refl _) hbel5); clear hb6)
    go_ret
    refine ⟨E6, g6, ?_, ?_, HB6.out⟩
    · rw [HFL.out]; rfl
    · rw [HFL.out, HF.out, byv_app]; exact hown6
end Go.Proofs.Ytepeamhoajlniaa
