/- The walk of walk.Guided. -/
import Derived.Test.YthemmbdhhjelcaaGdW
import Derived.Test.YthemmbdhhjelcaaRVal
import Derived.Test.YthemmbdhhjelcaaSuite
namespace Go.Proofs.Ythemmbdhhjelcaa
open Go.RowKit

set_option maxRecDepth 100000 in
set_option maxHeartbeats 4000000 in
theorem guided_p (k S seed cnt len : Nat) (A B : Option Addr) (c d : Nat) (nx out : List (List Int)) (w : World) (hN : RdM .i64 w A nx) (hO : RdM .i64 w B out)
    (ok : Mea.Ok k S nx out) (hseed : seed < 18446744073709551616) (hcnt : cnt ≤ 10000) (hlen : len ≤ 1024) :
    Calls Try.prog 33 #[.agg #[.int .i64 k, .int .i64 S, .slice A nx.length c, .slice B out.length d], .int .u64 seed, .int .i64 cnt, .int .i64 len] w fun e w' =>
      ∃ C f, e = .returned (.tuple #[.slice C cnt f, .int .i64 0]) ∧ OwnM w' w.heap.size 32 3 (.slice C cnt f) (Gd.gl k nx S len seed cnt) ∧ Below w.heap.size w w' := by
  have n0 := ok.n0
  have n128 := ok.n128
  have k1 := ok.k1
  have k64 := ok.k64
  have sS := ok.s
  have HV := Lib.hid ok.valid
  have hm := hN.1
  obtain ⟨i0, hi, hz0, hz1, hz2⟩ := info_parts info32
  obtain ⟨i3, hi3, hz03, hz13, hz23⟩ := info_parts info3
  have hmk := run_make_row' (P := Try.prog) 50 32 (.slice none 0 0) 24 Try.underlying50 info32 rfl .i64 .i64 nx.length (by omega) (by omega)
  have hmk2 := run_make_row' (P := Try.prog) 32 3 (.int .i64 0) 8 Try.underlying32 info3 rfl .i64 .i64 k (by omega) (by omega)
  go_enter Try.func33, Try.ntmps33
  go_wp2_with fail
  have hbx : Below w.heap.size w (w.alloc (.cells #[.int .i64 k, .int .i64 S, .slice A nx.length c, .slice B out.length d] 62)) := (Below.refl _ _).alloc (Nat.le_refl _) _
  refine (mvalid k S A B c d nx out _ (hN.keep hbx) (hO.keep hbx)).mono ?_
  rintro e w1 ⟨rfl, hb1⟩
  rw [HV.out]
  have hsz : w.heap.size < w1.heap.size := by have := hb1.size; simp at this; omega
  have hw1 : Below w.heap.size w w1 := below_seq hbx hb1
  have c0 : w1.cell? ⟨w.heap.size, 0, none⟩ = some (.int .i64 k) := (hb1.cell (p := ⟨w.heap.size, 0, none⟩) (by simp)).trans (by rw [World.cell?_alloc_at (hn := rfl)]; rfl)
  have c1 : w1.cell? ⟨w.heap.size, 1, none⟩ = some (.int .i64 S) := (hb1.cell (p := ⟨w.heap.size, 1, none⟩) (by simp)).trans (by rw [World.cell?_alloc_at (hn := rfl)]; rfl)
  have c2 : w1.cell? ⟨w.heap.size, 2, none⟩ = some (.slice A nx.length c) := (hb1.cell (p := ⟨w.heap.size, 2, none⟩) (by simp)).trans (by rw [World.cell?_alloc_at (hn := rfl)]; rfl)
  have rN := hN.keep hw1
  clear hN hO hbx hb1
  go_wp2_with (go_at_call 41; refine (wrong_no cnt len _ (by omega) (by omega) (by omega) (by omega)).mono ?_; rintro e w' ⟨rfl, rfl⟩)
  obtain ⟨N, hNN⟩ : ∃ N, N = w1.heap.size := ⟨_, rfl⟩
  rw [← hNN]
  rw [← hNN] at hsz
  have HN := Lib.hid hNN.symm
  clear hNN
  go_loopw [34] (fun i wr => ∃ j : Nat, j ≤ nx.length ∧ i = .int .i64 j ∧ Hid (WM 32 3 (.int .i64 8) w1 wr N nx.length k j)) (fun i _ => nx.length - (intOf i).toNat)
  case atStart => exact ⟨0, Nat.zero_le _, rfl, WM.start HN.out⟩
  case round =>
    obtain ⟨j, hj, rfl, HM⟩ := hrel
    have d0 := (HM.out.low.cell (p := ⟨w.heap.size, 0, none⟩) hsz).trans c0
    by_cases hjn : j < nx.length
    · have hcj := (HM.out.top.alloc (.cells (madeCells #[.int .i64 0] k) 3)).cell hjn
      have hfj := (HM.out.top.alloc (.cells (madeCells #[.int .i64 0] k) 3)).frozen j
      rw [if_neg (by omega)] at hcj
      have HI := Lib.hid (HM.out.make (z := .int .i64 0) hjn)
      go_wp2
      obtain ⟨wi, hwi⟩ : ∃ wi, wi = (wr.alloc (.cells (madeCells #[.int .i64 0] k) 3)).setCell ⟨N, j, none⟩ (.slice (some ⟨wr.heap.size, 0, none⟩) k k) := ⟨_, rfl⟩
      rw [← hwi] at HI ⊢
      have HS := Lib.hid HM.out.size
      clear hcj hfj HM hwi
      go_loopw [48] (fun i wr => ∃ a : Nat, a ≤ k ∧ i = .int .i64 a ∧ Hid (WI 32 3 (.int .i64 0) (.int .i64 8) w1 wr N nx.length k j a)) (fun i _ => k - (intOf i).toNat)
      case atStart => exact ⟨0, Nat.zero_le _, rfl, HI⟩
      case round =>
        clear HI d0
        obtain ⟨a, ha, rfl, HI⟩ := hrel
        by_cases hak : a < k
        · have hc1 := HI.out.top.cell hjn
          rw [if_pos (by omega)] at hc1
          have hc1' : wr.cell? ⟨N, j, none⟩ = some (.slice (some ⟨N + 1 + j, 0, none⟩) k k) := hc1
          have hc2 := HI.out.now.cell hak
          rw [if_neg (by omega)] at hc2
          have hf2 := HI.out.now.frozen a
          have HI2 := Lib.hid HI.out.store
          clear hc1
          go_wp2
          go_roundw
          case rel => exact ⟨a + 1, by omega, by go_num, HI2⟩
          case measure => simp [intOf] <;> omega
        · have HM2 := Lib.hid (HI.out.done (by omega))
          go_wp2
          go_roundw
          case rel => exact ⟨j + 1, by omega, by go_num, HM2⟩
          case measure => simp [intOf] <;> omega
    · obtain rfl : j = nx.length := by omega
      have HS := Lib.hid (HM.out.full (val := fun b => .int .i64 (if b = true then 1 else 8)))
      have hlow := HM.out.low
      clear HM hmk hmk2
      have hb0 : w.heap.size ≤ wr.heap.size := Nat.le_trans hw1.size hlow.size
      go_wp2_with (refine wpList_make_own _ rfl _ _ 50 rfl wr.heap.size 32 i0 _ 1 Try.underlying50 hi hz0 hz1 .i64 .i64 cnt cnt rfl rfl rfl (by rw [hz2]; omega) (by unfold maxLen; omega) (Nat.le_refl _) ?_; intro w2 hown0 hg0)
      have hB1 : wr.heap.size ≤ w2.heap.size := hg0.size
      have hN1 : N + 1 + nx.length ≤ wr.heap.size := HS.out.size
      have hS2 := HS.out.keep ((Below.refl _ _).grown hg0 hN1 (fun k hk => by cases hk))
      obtain ⟨B1, hB1'⟩ : ∃ B1, B1 = wr.heap.size := ⟨_, rfl⟩
      rw [← hB1'] at hown0 hB1 hN1 ⊢
      have hbB : w.heap.size ≤ B1 := by omega
      clear HS hg0 hlow hb0 hB1' hj hjn
      have hs0 : ∃ C0 c0, (Value.slice (some ⟨B1, 0, none⟩) 0 cnt) = .slice C0 0 c0 := ⟨_, _, rfl⟩
      have hfit := fun j => Lib.hid (Gd.fit_w ok len seed hseed j)
      go_loopw [1, 14, 62] (fun u v i wr => ∃ (j : Nat) (C : Option Addr) (f : Nat), j ≤ cnt ∧ i = .int .i64 j ∧ u = .int .u64 (Gd.gw k nx S len seed j).1 ∧ v = .slice C j f ∧ Hid (OwnM wr B1 32 3 (.slice C j f) (Gd.gl k nx S len seed j)) ∧
        Hid (WS 32 3 (fun b => .int .i64 (if b = true then 1 else 8)) w1 wr N nx.length k (Gd.gw k nx S len seed j).2.1) ∧ B1 ≤ wr.heap.size) (fun _ _ i _ => cnt - (intOf i).toNat)
      case atStart => exact ⟨0, _, _, Nat.zero_le _, rfl, rfl, rfl, ⟨[], hown0, fun i hi => by simp [Gd.gl] at hi⟩, hS2, hB1⟩
      case round =>
        clear hown0 hB1 hS2 hs0
        obtain ⟨j, C, f, hj, rfl, rfl, rfl, HO, HS, hsz1⟩ := hrel
        have d1 := (HS.out.low.cell (p := ⟨w.heap.size, 1, none⟩) hsz).trans c1
        by_cases hjc : j < cnt
        · obtain ⟨σ, hσ⟩ : ∃ σ, σ = Gd.gw k nx S len seed j := ⟨_, rfl⟩
          have hF := (hfit j).out
          rw [← hσ] at HS hF ⊢
          have HF := Lib.hid hF
          have HSg := Lib.hid hσ
          clear hσ hF
          go_wp2_with (refine wpList_make_own _ rfl _ _ 32 rfl wr.heap.size 3 i3 _ 1 Try.underlying32 hi3 hz03 hz13 .i64 .i64 len len rfl rfl rfl (by rw [hz23]; omega) (by unfold maxLen; omega) (Nat.le_refl _) ?_; intro w3 hrow0 hg3)
          have hσS := Lib.hid (show σ.2.2 = S by rw [HSg.out]; exact Gd.gw_S k nx S len seed j)
          have hS3 := Lib.hid (HS.out.keep ((Below.refl _ _).grown hg3 HS.out.size (fun k hk => by cases hk)))
          have hM3 := Lib.hid (Mid.of_below (B := B1) ((Below.refl wr.heap.size wr).grown hg3 (Nat.le_refl _) (fun k hk => by cases hk)))
          have hsz3 : wr.heap.size ≤ w3.heap.size := hg3.size
          have HR0 := Lib.hid hrow0
          obtain ⟨Bw, hBw⟩ : ∃ Bw, Bw = wr.heap.size := ⟨_, rfl⟩
          rw [← hBw] at hM3 hsz3 HR0 hsz1 ⊢
          have HBw := Lib.hid hBw
          clear hg3 hrow0 hBw d1 HS
          obtain ⟨wo, rfl⟩ : ∃ wo : World, wo = wr := ⟨_, rfl⟩
          go_loopw [1, 15, 16, 69] (fun u s v i wi => ∃ (q : Nat) (D : Option Addr) (g : Nat), q ≤ len ∧ i = .int .i64 q ∧ u = .int .u64 (Gd.git k nx σ q).1 ∧ s = .int .i64 (Gd.git k nx σ q).2.2 ∧ v = .slice D q g ∧
            Hid (wi.ownsRow Bw 3 1 (.slice D q g) q ((Gd.gword k nx σ q).map (.int .i64))) ∧ Hid (Mid B1 Bw wo wi) ∧ Hid (WS 32 3 (fun b => .int .i64 (if b = true then 1 else 8)) w1 wi N nx.length k (Gd.git k nx σ q).2.1) ∧ Bw ≤ wi.heap.size) (fun _ _ _ i _ => len - (intOf i).toNat)
          case atStart => exact ⟨0, _, _, Nat.zero_le _, rfl, rfl, by rw [Gd.git, hσS.out], rfl, HR0, hM3, hS3, hsz3⟩
          case round =>
            clear HR0 hM3 hS3 hsz3
            obtain ⟨q, D, g, hq, rfl, rfl, rfl, rfl, HR, HM, HS, hszi⟩ := hrel
            by_cases hql : q < len
            · have hfq := Gd.fit_it ok HF.out q
              obtain ⟨τ, hτ⟩ : ∃ τ, τ = Gd.git k nx σ q := ⟨_, rfl⟩
              rw [← hτ] at HS hfq ⊢
              obtain ⟨hf1, hf2⟩ := hfq
              have hpl := Gd.gpick_lt k τ k1
              obtain ⟨a, ha⟩ : ∃ a, a = Gd.gpick k τ := ⟨_, rfl⟩
              rw [← ha] at hpl
              have hc1 : wr.cell? ⟨N, τ.2.2, none⟩ = some (.slice (some ⟨N + 1 + τ.2.2, 0, none⟩) k k) := HS.out.top.cell hf2
              have hc2 := (HS.out.row τ.2.2 hf2).cell hpl
              have hf3 := (HS.out.row τ.2.2 hf2).frozen a
              have hch := choose_p τ.1 (some ⟨N + 1 + τ.2.2, 0, none⟩) k _ wr (HS.out.rd hf2 (by omega)) hf1
              rw [Gd.ws_len, Gd.chv_ws k τ k1 k64, ← ha] at hch
              obtain ⟨x, hx⟩ : ∃ x, x = (nx.getD τ.2.2 []).getD a 0 := ⟨_, rfl⟩
              have hxi := Gd.next_int ok hf2 hpl
              rw [← hx] at hxi
              have hgs : Gd.gnext k nx τ = (Gd.gseed k τ, Gd.upd τ.2.1 τ.2.2 a, x.toNat) := by unfold Gd.gnext; rw [← ha, ← hx]
              have hgw : Gd.gword k nx σ (q + 1) = Gd.gword k nx σ q ++ [(a : Int)] := by rw [Gd.gword_succ, ← hτ, ← ha]
              have hgi : Gd.git k nx σ (q + 1) = (Gd.gseed k τ, Gd.upd τ.2.1 τ.2.2 a, x.toNat) := by rw [← hgs, hτ]; rfl
              have hls : N + 1 + τ.2.2 < Bw := by omega
              have HSt := Lib.hid (HS.out.store hf2 a)
              have HRt := Lib.hid (ownsRow_setCell_below HR.out (a := ⟨N + 1 + τ.2.2, a, none⟩) hls (.int .i64 1))
              have HMt := Lib.hid (HM.out.setCell (p := ⟨N + 1 + τ.2.2, a, none⟩) (by show N + 1 + τ.2.2 < B1; omega) (.int .i64 1))
              have HRN := Lib.hid rN
              have HX := Lib.hid hx
              have HXI := Lib.hid hxi
              have HGW := Lib.hid hgw
              have HGI := Lib.hid hgi
              have HCH := Lib.hid hch
              have RL := Lib.hid (ok.rowN τ.2.2 hf2)
              have OKH := Lib.hid ok
              have HFI := hfit
              clear hx hxi hgs hgw hgi hch hτ ha HS HR HM d0 HV ok rN hfit HFI
              go_wp2_with fail
              refine HCH.out.mono ?_
              rintro e w' ⟨rfl, rfl⟩
              clear HCH
              go_wp2_with (at_builtin; refine app1' rfl (.tmp 91) (.tmp 93) 32 3 _ _ rfl Try.underlying32 info3 rfl (by decide) rfl rfl (by simp) HRt.out rfl (by omega) (by simpa using hszi) ?_; intro v' w4 hown' hb' hsz'; obtain ⟨D', g', rfl⟩ := own_slice hown'; have HB4 := Lib.hid hb'; have HS4 := Lib.hid (HSt.out.keep (hb' (N + 1 + nx.length) _ (by omega) (Below.refl _ _))); have d2 := (HS4.out.low.cell (p := ⟨w.heap.size, 2, none⟩) hsz).trans c2; obtain ⟨ad, E, eE, xs, rfl, hxs, cx, rx⟩ := (HRN.out.keep (show Below w1.heap.size w1 w4 by rw [HN.out]; exact HS4.out.low)).at_ hf2; have HXS := Lib.hid hxs; obtain ⟨ad3, x3, rfl, hx3, ct⟩ := rx.at_ (i := a) (by rw [← hxs, RL.out]; exact hpl); have HX3 := Lib.hid hx3; have hal : a < xs.length := (by rw [← hxs, RL.out]; exact hpl); have mlx := rx.1; clear hxs hx3 hb' rx)
              go_roundw
              case rel =>
                refine ⟨q + 1, D', g', by omega, by go_num, by rw [HGI.out], ?_, rfl, by rw [HGW.out, List.map_append]; exact hown', HMt.out.trans (Mid.of_below (HB4.out Bw _ (Nat.le_refl _) (Below.refl _ _))), by rw [HGI.out]; exact HS4.out, hsz'⟩
                have e3 : x3 = x := by rw [HX.out, HXS.out, HX3.out]
                rw [HGI.out, e3]
                exact congrArg (Value.int .i64) HXI.out.1
              case measure => simp [intOf] <;> omega
            · obtain rfl : q = len := by omega
              have HO2 := Lib.hid (HO.out.mid (by rw [HBw.out]; exact Nat.le_refl _) HM.out)
              have HR2 := Lib.hid (own_mono HR.out hsz1)
              have hgln := Gd.gl_len k nx S q seed j
              have HGN := Lib.hid hgln
              have hgw1 : (Gd.gw k nx S q seed (j + 1)) = ((Gd.git k nx σ q).1, (Gd.git k nx σ q).2.1, S) := by rw [HSg.out]; rfl
              have hgl1 : Gd.gl k nx S q seed (j + 1) = Gd.gl k nx S q seed j ++ [Gd.gword k nx σ q] := by rw [Gd.gl_succ, HSg.out]
              have HGW1 := Lib.hid hgw1
              have HGL1 := Lib.hid hgl1
              have hszb : B1 ≤ wr.heap.size := by omega
              have hO2 := HO2.out
              rw [← hgln] at hO2
              have HO3 := Lib.hid hO2
              clear hgln hgw1 hgl1 d0 HV rN hfit hO2 ok
              go_wp2_with (at_builtin; refine appM rfl (.tmp 104) (.tmp 106) 50 32 3 rfl Try.underlying50 info32 (by decide) rfl rfl HO2.out (Gd.gword_len _ _ _ _) HR2.out (by rw [HGN.out]; omega) hszb ?_; intro v' w' hown' hb' hsz'; obtain ⟨A', c', rfl⟩ := hown'.slice)
              go_roundw
              case rel =>
                have hS' := HS.out.keep (hb' (N + 1 + nx.length) _ (by omega) (Below.refl _ _))
                rw [List.length_append, HGN.out] at hown'
                refine ⟨j + 1, A', c', by omega, by go_num, by rw [HGW1.out], ?_, ?_, ?_, hsz'⟩
                · rw [HGN.out]
                · rw [HGL1.out]; exact hown'
                · rw [HGW1.out]; exact hS'
              case measure => simp [intOf] <;> omega
        · obtain rfl : j = cnt := by omega
          have hfin := below_seqB hw1 (Nat.le_refl _) (show Below w1.heap.size w1 wr by rw [HN.out]; exact HS.out.low)
          have HM := HO.out.mono hbB
          go_wp2
          go_ret2
          exact ⟨_, _, rfl, HM, hfin⟩

set_option maxHeartbeats 1000000 in
theorem guided_p_bad (I S : Int) (seed : Nat) (cnt len : Int) (A B : Option Addr) (c d : Nat) (nx out : List (List Int)) (w : World) (hN : RdM .i64 w A nx) (hO : RdM .i64 w B out)
    (hv : Mea.validE I S nx out ≠ 0) :
    Calls Try.prog 33 #[.agg #[.int .i64 I, .int .i64 S, .slice A nx.length c, .slice B out.length d], .int .u64 seed, .int .i64 cnt, .int .i64 len] w fun e w' =>
      e = .returned (.tuple #[.slice none 0 0, .int .i64 (Mea.validE I S nx out)]) ∧ Below w.heap.size w w' := by
  obtain ⟨q, hq⟩ : ∃ q, q = Mea.validE I S nx out := ⟨_, rfl⟩
  rw [← hq] at hv ⊢
  have hb : (q != 0) = true := by rw [bne_iff_ne]; exact hv
  have HQ := Lib.hid hq
  clear hq hv
  go_enter Try.func33, Try.ntmps33
  go_wp2_with fail
  have hbx : Below w.heap.size w (w.alloc (.cells #[.int .i64 I, .int .i64 S, .slice A nx.length c, .slice B out.length d] 62)) := (Below.refl _ _).alloc (Nat.le_refl _) _
  refine (mvalid I S A B c d nx out _ (hN.keep hbx) (hO.keep hbx)).mono ?_
  rintro e w1 ⟨rfl, hb1⟩
  rw [← HQ.out]
  clear hN hO
  go_wp2
  go_ret2
  exact ⟨rfl, below_seq hbx hb1⟩
set_option maxHeartbeats 1000000 in
theorem guided_p_wrong (I S : Int) (seed : Nat) (cnt len : Int) (A B : Option Addr) (c d : Nat) (nx out : List (List Int)) (w : World) (hN : RdM .i64 w A nx) (hO : RdM .i64 w B out)
    (hv : Mea.validE I S nx out = 0) (h : cnt < 0 ∨ 10000 < cnt ∨ len < 0 ∨ 1024 < len) :
    Calls Try.prog 33 #[.agg #[.int .i64 I, .int .i64 S, .slice A nx.length c, .slice B out.length d], .int .u64 seed, .int .i64 cnt, .int .i64 len] w fun e w' =>
      e = .returned (.tuple #[.slice none 0 0, .int .i64 2]) ∧ Below w.heap.size w w' := by
  have HV := Lib.hid hv
  have HH := Lib.hid h
  clear hv h
  go_enter Try.func33, Try.ntmps33
  go_wp2_with fail
  have hbx : Below w.heap.size w (w.alloc (.cells #[.int .i64 I, .int .i64 S, .slice A nx.length c, .slice B out.length d] 62)) := (Below.refl _ _).alloc (Nat.le_refl _) _
  refine (mvalid I S A B c d nx out _ (hN.keep hbx) (hO.keep hbx)).mono ?_
  rintro e w1 ⟨rfl, hb1⟩
  rw [HV.out]
  clear hN hO
  go_wp2_with (go_at_call 41; refine (wrong_yes cnt len _ HH.out).mono ?_; rintro e w' ⟨rfl, rfl⟩)
  go_ret2
  exact ⟨rfl, below_seq hbx hb1⟩
end Go.Proofs.Ythemmbdhhjelcaa
