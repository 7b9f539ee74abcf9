/- The code's machine that runs: all timeouts up to a time. -/
import Derived.Test.YtpcoddbkcelaoaaTake
namespace Go.Proofs.Ytpcoddbkcelaoaa
open Go.RowKit

/-- how many events a machine that runs has -/
def evLen (w : World) (g : Nat) : Nat := match w.cell? ⟨g, 15, none⟩ with
  | some (.slice _ n _) => n
  | _ => 0
theorem evLen_eq {w : World} {g n : Nat} {A : Option Addr} {c : Nat} (h : w.cell? ⟨g, 15, none⟩ = some (.slice A n c)) : evLen w g = n := by unfold evLen; rw [h]
/-- a machine that runs, in the midst of a timed word: what is so in the world wr, since the world w -/
structure Wt (m : Tm.M) (k T : Nat) (wd : List (Int × Int)) (en : Int) (R : Int × List Tm.Ev) (i : Nat) (g base : Nat) (A : Option Addr) (c : Nat) (B : Option Addr) (d : Nat) (C : Option Addr) (e : Nat) (row : Option Nat) (w wr : World) (st : Tm.St) (du : Nat → Int) (v : Value) : Prop where
  ex : Tm.Ex m k T wd en R i st
  ag : Tm.Agree st.c st.at_ du
  rn : Rn wr g m A c B d C e st.c du v
  own : OwnE wr base v st.ev
  mv : Mv w wr g row
  loc : v.ownBlock = row ∨ ∃ b, v.ownBlock = some b ∧ w.heap.size ≤ b
/-- what 'wait' does -/
def WaitP (m : Tm.M) (k T : Nat) (wd : List (Int × Int)) (en : Int) (R : Int × List Tm.Ev) (i g base : Nat) (A : Option Addr) (c : Nat) (B : Option Addr) (d : Nat) (C : Option Addr) (e : Nat) (row : Option Nat) (w : World) (lm : Int) (r : Ending) (w' : World) : Prop :=
  r = .returned (.tuple #[]) ∧ ∃ st' du' v', Wt m k T wd en R i g base A c B d C e row w w' st' du' v' ∧ (10000 < st'.ev.length ∨ (¬ 10000 < st'.ev.length ∧ Tm.dueF st'.c st'.at_ lm T < 0))
set_option maxRecDepth 100000 in
set_option maxHeartbeats 8000000 in
theorem wait_p (m : Tm.M) (k T S : Nat) (A B C : Option Addr) (c d e : Nat) (wd : List (Int × Int)) (en : Int) (R : Int × List Tm.Ev) (ix g base : Nat) (w0 w : World) (st : Tm.St) (du : Nat → Int) (v : Value) (hm : Tm.Ok m k T S) (hw : Tm.WordOk k wd en)
    (hR : RdT w0 A B C m) (hb0 : Below w0.heap.size w0 w) (hg0 : w0.heap.size ≤ g) (hbg : w0.heap.size ≤ base) (hbw : base ≤ w.heap.size) (h : Wt m k T wd en R ix g base A c B d C e v.ownBlock w w st du v) :
    Calls Try.prog 31 #[.pointer (some ⟨g, 0, none⟩), .int .i64 (Tm.lim wd en ix)] w (WaitP m k T wd en R ix g base A c B d C e v.ownBlock w (Tm.lim wd en ix)) := by
  have HM := Lib.hid hm
  have HW := Lib.hid hw
  have HR := Lib.hid hR
  have HB0 := Lib.hid hb0
  have H := Lib.hid h
  have h4 := hm.t4
  have h64 := hm.k64
  have HROW : Hid (∀ b, v.ownBlock = some b → w0.heap.size ≤ b) := Lib.hid (fun b hb => Nat.le_trans hbg (h.own.lt b hb).1)
  have HL := Lib.hid (Tm.lim_bd (i := ix) hw)
  clear hm hw hR hb0 h
  generalize hlm : Tm.lim wd en ix = lm at *
  have HLM := Lib.hid hlm
  clear hlm
  go_enter Try.func31, Try.ntmps31
  go_wp2_with fail
  go_loopw [] (fun wr => ∃ st1 du1 v1, Hid (Wt m k T wd en R ix g base A c B d C e v.ownBlock w wr st1 du1 v1)) (fun wr => 10001 - evLen wr g)
  case atStart => exact ⟨st, du, v, H⟩
  case round =>
    obtain ⟨st1, du1, v1, HQ⟩ := hrel
    obtain ⟨E, ce, rfl⟩ := own_slice HQ.out.own
    have c15 := HQ.out.rn.c15
    have hel := evLen_eq c15
    have hlen := HQ.out.ex.len
    by_cases hmany : 10000 < st1.ev.length
    · have d1 : ¬ (st1.ev.length : Int) ≤ 10000 := by omega
      go_wp2_with fail
      go_end0
      exact ⟨rfl, st1, du1, _, HQ.out, .inl hmany⟩
    have d1 : (st1.ev.length : Int) ≤ 10000 := by omega
    go_upto_region 1 with fail
    clear c15 d1
    go_wp2_with fail
    refine (first_p m T A B C c d e st1.c du1 _ g _ HM.out.T' h4 HQ.out.rn).mono ?_
    rintro r w1 ⟨rfl, n1, rfl⟩
    rw [Tm.first_congr (fun x hx => (HQ.out.ag x hx).symm) T]
    have HD := Lib.hid (Tm.due_first st1.c st1.at_ lm T)
    have HF := Lib.hid (Tm.first_run st1.c st1.at_ T)
    by_cases hneg : Tm.firstF st1.c st1.at_ T < 0
    · have HN : Hid (Tm.dueF st1.c st1.at_ lm T < 0) := Lib.hid (by rw [HD.out, if_pos (.inl hneg)]; decide)
      generalize Tm.firstF st1.c st1.at_ T = f at *
      go_wp2_with fail
      go_end0
      exact ⟨rfl, st1, du1, _, ⟨HQ.out.ex, HQ.out.ag, HQ.out.rn, HQ.out.own, ⟨HQ.out.mv.os, HQ.out.mv.tape, HQ.out.mv.output, HQ.out.mv.size, HQ.out.mv.block⟩, HQ.out.loc⟩, .inr ⟨hmany, HN.out⟩⟩
    obtain ⟨x, hx⟩ : ∃ x : Nat, Tm.firstF st1.c st1.at_ T = x := ⟨(Tm.firstF st1.c st1.at_ T).toNat, by omega⟩
    rw [hx] at HD HF hneg ⊢
    have hxT : x < T := by rcases HF.out with h | ⟨_, h, _⟩ <;> omega
    have hx4 : x < 4 := by omega
    have HRUN : Hid (st1.c.2.getD x false = true) := Lib.hid (by rcases HF.out with h | ⟨_, _, h⟩; exact absurd h (by omega); simpa using h)
    have cd := HQ.out.rn.due hx4
    rw [← HQ.out.ag x HRUN.out] at cd
    have HX := Lib.hid hx
    have hxi : (x : Int) < 4 := by omega
    clear hx HF
    by_cases hlate : lm < st1.at_ x
    · have HN : Hid (Tm.dueF st1.c st1.at_ lm T < 0) := Lib.hid (by rw [HD.out, if_pos (.inr (by rw [Int.toNat_natCast]; exact hlate))]; decide)
      generalize st1.at_ x = ax at *
      go_wp2_with fail
      go_end0
      exact ⟨rfl, st1, du1, _, ⟨HQ.out.ex, HQ.out.ag, HQ.out.rn, HQ.out.own, ⟨HQ.out.mv.os, HQ.out.mv.tape, HQ.out.mv.output, HQ.out.mv.size, HQ.out.mv.block⟩, HQ.out.loc⟩, .inr ⟨hmany, HN.out⟩⟩
    have hdue : Tm.dueF st1.c st1.at_ lm T = x := by rw [HD.out, if_neg (by rw [Int.toNat_natCast]; omega)]
    have HDU := Lib.hid hdue
    clear hdue HD
    have HAT : Hid (st1.at_ x = st1.at_ x) := Lib.hid rfl
    generalize hax : st1.at_ x = ax at *
    have HAX := Lib.hid hax
    clear hax
    go_upto_region 3 with fail
    have HB1 : Hid (Below w0.heap.size w0 (wr.drewN n1)) := Lib.hid (below_drewN' (HQ.out.mv.below HB0.out HB0.out.size hg0 HROW.out) _)
    have HQ1 : Hid (Wt m k T wd en R ix g base A c B d C e v.ownBlock w (wr.drewN n1) st1 du1 (.slice E st1.ev.length ce)) := Lib.hid ⟨HQ.out.ex, HQ.out.ag, HQ.out.rn, HQ.out.own, ⟨HQ.out.mv.os, HQ.out.mv.tape, HQ.out.mv.output, HQ.out.mv.size, HQ.out.mv.block⟩, HQ.out.loc⟩
    generalize hw1 : wr.drewN n1 = w1 at *
    clear hw1 HQ
    have c0 := HQ1.out.rn.c0
    rw [HM.out.I] at c0
    refine wp_region_held_drew (S := fun wx => wx.cell? ⟨g, 0, none⟩ = some (.int .i64 (k : Nat))) (by kernel_rfl) (c0) (fun hS => ?_)
    refine takeH (i := 0) (d := some 25) (v := ?_) rfl rfl (by kernel_rfl) (by kernel_rfl) (by kernel_rfl) (fun _ _ _ h => h) (Or.inl ⟨by rfl, ?_⟩) hS ?_
    rotate_left
    · intro wx hSx; clear hSx; first | (go_simp; done) | (go_simp; with_reducible rfl)
    simp only [Act.put, List.setIfInBounds_toArray, List.set_cons_zero, List.set_cons_succ]
    refine takeH (i := 1) (d := some 26) (v := ?_) rfl rfl (by kernel_rfl) (by kernel_rfl) (by kernel_rfl) (fun _ _ _ h => h) (Or.inl ⟨by rfl, ?_⟩) hS ?_
    rotate_left
    · intro wx hSx; clear hSx; first | (go_simp; done) | (go_simp; with_reducible rfl)
    simp only [Act.put, List.setIfInBounds_toArray, List.set_cons_zero, List.set_cons_succ]
    refine takeH (i := 2) (d := some 27) (v := ?_) rfl rfl (by kernel_rfl) (by kernel_rfl) (by kernel_rfl) (fun _ _ _ h => h) (Or.inl ⟨by rfl, ?_⟩) hS ?_
    rotate_left
    · intro wx hSx; clear hSx; first | (go_simp; done) | (go_simp; with_reducible rfl)
    simp only [Act.put, List.setIfInBounds_toArray, List.set_cons_zero, List.set_cons_succ]
    refine takeH (i := 3) (d := some 28) (v := ?_) rfl rfl (by kernel_rfl) (by kernel_rfl) (by kernel_rfl) (fun _ _ _ h => h) (Or.inl ⟨by rfl, ?_⟩) hS ?_
    rotate_left
    · intro wx hSx; clear hSx; first | (go_simp; done) | (go_simp; with_reducible rfl)
    simp only [Act.put, List.setIfInBounds_toArray, List.set_cons_zero, List.set_cons_succ]
    refine takeH (i := 4) (d := some 29) (v := ?_) rfl rfl (by kernel_rfl) (by kernel_rfl) (by kernel_rfl) (fun _ _ _ h => h) (Or.inl ⟨by rfl, ?_⟩) hS ?_
    rotate_left
    · intro wx hSx; clear hSx; first | (go_simp; done) | (go_simp; with_reducible rfl)
    simp only [Act.put, List.setIfInBounds_toArray, List.set_cons_zero, List.set_cons_succ]
    refine takeH (i := 5) (d := some 30) (v := ?_) rfl rfl (by kernel_rfl) (by kernel_rfl) (by kernel_rfl) (fun _ _ _ h => h) (Or.inl ⟨by rfl, ?_⟩) hS ?_
    rotate_left
    · intro wx hSx; clear hSx; first | (go_simp; done) | (go_simp; with_reducible rfl)
    simp only [Act.put, List.setIfInBounds_toArray, List.set_cons_zero, List.set_cons_succ]
    refine takeH (i := 7) (d := some 32) (v := ?_) rfl rfl (by kernel_rfl) (by kernel_rfl) (by kernel_rfl) (fun _ _ _ h => h) (Or.inl ⟨by rfl, ?_⟩) hS ?_
    rotate_left
    · intro wx hSx; clear hSx; first | (go_simp; done) | (go_simp; with_reducible rfl)
    simp only [Act.put, List.setIfInBounds_toArray, List.set_cons_zero, List.set_cons_succ]
    refine takeH (i := 8) (d := some 33) (v := ?_) rfl rfl (by kernel_rfl) (by kernel_rfl) (by kernel_rfl) (fun _ _ _ h => h) (Or.inl ⟨by rfl, ?_⟩) hS ?_
    rotate_left
    · intro wx hSx; clear hSx; first | (go_simp; done) | (go_simp; with_reducible rfl)
    simp only [Act.put, List.setIfInBounds_toArray, List.set_cons_zero, List.set_cons_succ]
    refine takeH (i := 9) (d := some 34) (v := ?_) rfl rfl (by kernel_rfl) (by kernel_rfl) (by kernel_rfl) (fun _ _ _ h => h) (Or.inl ⟨by rfl, ?_⟩) hS ?_
    rotate_left
    · intro wx hSx; clear hSx; first | (go_simp; done) | (go_simp; with_reducible rfl)
    simp only [Act.put, List.setIfInBounds_toArray, List.set_cons_zero, List.set_cons_succ]
    refine takeH (i := 10) (d := some 35) (v := ?_) rfl rfl (by kernel_rfl) (by kernel_rfl) (by kernel_rfl) (fun _ _ _ h => h) (Or.inl ⟨by rfl, ?_⟩) hS ?_
    rotate_left
    · intro wx hSx; clear hSx; first | (go_simp; done) | (go_simp; with_reducible rfl)
    simp only [Act.put, List.setIfInBounds_toArray, List.set_cons_zero, List.set_cons_succ]
    refine takeH (i := 11) (d := some 36) (v := ?_) rfl rfl (by kernel_rfl) (by kernel_rfl) (by kernel_rfl) (fun _ _ _ h => h) (Or.inl ⟨by rfl, ?_⟩) hS ?_
    rotate_left
    · intro wx hSx; have e0 := hSx; clear hSx; first | (go_simp; done) | (go_simp; with_reducible rfl)
    simp only [Act.put, List.setIfInBounds_toArray, List.set_cons_zero, List.set_cons_succ]
    refine takeH (i := 12) (d := some 37) (v := ?_) rfl rfl (by kernel_rfl) (by kernel_rfl) (by kernel_rfl) (fun _ _ _ h => h) (Or.inl ⟨by rfl, ?_⟩) hS ?_
    rotate_left
    · intro wx hSx; clear hSx; first | (go_simp; done) | (go_simp; with_reducible rfl)
    simp only [Act.put, List.setIfInBounds_toArray, List.set_cons_zero, List.set_cons_succ]
    refine takeH (i := 13) (d := some 38) (v := ?_) rfl rfl (by kernel_rfl) (by kernel_rfl) (by kernel_rfl) (fun _ _ _ h => h) (Or.inl ⟨by rfl, ?_⟩) hS ?_
    rotate_left
    · intro wx hSx; clear hSx; have hw1 := IntWalk.i64_in ((k : Int) + (x : Int)) (by omega); first | (go_simp; done) | (go_simp; with_reducible rfl)
    simp only [Act.put, List.setIfInBounds_toArray, List.set_cons_zero, List.set_cons_succ]
    generalize hwa : World.drew _ = wa at hS ⊢
    replace HQ1 : Hid (Wt m k T wd en R ix g base A c B d C e v.ownBlock w wa st1 du1 (.slice E st1.ev.length ce)) := Lib.hid (by rw [← hwa]; exact ⟨HQ1.out.ex, HQ1.out.ag, HQ1.out.rn, HQ1.out.own, HQ1.out.mv.drew, HQ1.out.loc⟩)
    replace HB1 : Hid (Below w0.heap.size w0 wa) := Lib.hid (by rw [← hwa]; exact HB1.out.drew)
    clear c0 cd
    clear hwa
    have HSa := Lib.hid hS
    clear hS
    refine wpAnyH_ready (rs := [6]) (by kernel_rfl) (by simp) ?_
    refine AllReadyH.cons rfl (fun K hK => ?_) AllReadyH.nil
    rw [if_pos (by rfl)]
    have cd2 := HQ1.out.rn.due hx4
    rw [← HQ1.out.ag x HRUN.out, HAX.out] at cd2
    go_simp
    clear cd2
    refine hK.out _ _ HSa.out (fun hS2 => ?_)
    clear hK K hS2
    try simp only [Act.put, List.setIfInBounds_toArray, List.set_cons_zero, List.set_cons_succ]
    refine wpAnyH_ready (rs := [14]) (by kernel_rfl) (by simp) ?_
    refine AllReadyH.cons rfl (fun K hK => ?_) AllReadyH.nil
    rw [if_pos (by rfl)]
    try go_simp
    have hrow1 : ∀ b, (Value.slice E st1.ev.length ce).ownBlock = some b → w0.heap.size ≤ b := fun b hb => Nat.le_trans hbg (HQ1.out.own.lt b hb).1
    have HLx := HL.out
    refine (take_p m k T S A B C c d e st1.c du1 _ st1.ev ax (k + x) g base w0 wa HM.out HQ1.out.ex.ok.c (by omega) (by unfold Tm.poss; rw [show k + x - k = x by omega, HRUN.out]; simp) HR.out HB1.out hg0 hbg (Nat.le_trans hbw HQ1.out.mv.size) HQ1.out.rn HQ1.out.own HQ1.out.ex.len (by rw [← HAX.out]; exact HQ1.out.ex.ok.t0 x) (by have := HL.out.2; omega)).mono ?_
    rintro r wv ⟨rfl, v2, hrn, hown, hmv, hloc⟩
    refine hK.out _ _ (by have := hrn.c0; rwa [HM.out.I] at this) (fun hS2 => ?_)
    clear hK K hS2
    try simp only [Act.put, List.setIfInBounds_toArray, List.set_cons_zero, List.set_cons_succ]
    have HEX := Lib.hid (HQ1.out.ex.wait HM.out HW.out hmany (by rw [HLM.out]; exact HDU.out)).2.2.2
    rw [HAX.out] at HEX
    have HMV2 := Lib.hid (HQ1.out.mv.trans hmv HQ1.out.loc)
    have HLOC : Hid (v2.ownBlock = v.ownBlock ∨ ∃ b, v2.ownBlock = some b ∧ w.heap.size ≤ b) := Lib.hid (by
      rcases hloc with h | ⟨b, h, hb⟩
      · rw [h]; exact HQ1.out.loc
      · exact .inr ⟨b, h, Nat.le_trans HQ1.out.mv.size hb⟩)
    have HAG := Lib.hid (HQ1.out.ag.take (k := k) (m := m) (i := k + x) (now := ax))
    obtain ⟨E2, ce2, hE2⟩ := own_slice hown
    have HEL := Lib.hid (evLen_eq (hrn.c15.trans (by rw [hE2])))
    have HRN := Lib.hid hrn
    have HOW := Lib.hid hown
    clear hrn hown hmv hloc hrow1 HLx hE2
    refine wpAnyH_done (by kernel_rfl) ?_ _
    go_wp2_with fail
    go_roundw
    case rel => exact ⟨_, _, v2, Lib.hid ⟨HEX.out, HAG.out, HRN.out, HOW.out, HMV2.out, HLOC.out⟩⟩
    case measure => rw [HEL.out, hel, List.length_append, List.length_singleton]; omega
end Go.Proofs.Ytpcoddbkcelaoaa
