/- The walk of the reference's Guided. -/
import Derived.Test.YthemmbdhhjelcaaGuidP
import Derived.Test.YthemmbdhhjelcaaRVal
import Derived.Test.YthemmbdhhjelcaaSuite
namespace Go.Proofs.Ythemmbdhhjelcaa
open Go.RowKit

theorem info78 : (Try.prog.info? 78).map (fun i => (i.zero, i.size, i.bytes)) = some (some (.slice none 0 0), 1, 24) := by kernel_rfl
theorem info4 : (Try.prog.info? 4).map (fun i => (i.zero, i.size, i.bytes)) = some (some (.bool false), 1, 1) := by kernel_rfl

set_option maxRecDepth 100000 in
set_option maxHeartbeats 4000000 in
theorem guided_r (k S seed cnt len : Nat) (A B : Option Addr) (c d : Nat) (nx out : List (List Int)) (w : World) (hN : RdM .i64 w A nx) (hO : RdM .i64 w B out)
    (ok : Mea.Ok k S nx out) (hseed : seed < 18446744073709551616) (hcnt : cnt ≤ 10000) (hlen : len ≤ 1024) :
    Calls Try.prog 34 #[.agg #[.int .i64 k, .int .i64 S, .slice A nx.length c, .slice B out.length d], .int .u64 seed, .int .i64 cnt, .int .i64 len] w fun e w' =>
      ∃ C f, e = .returned (.tuple #[.slice C cnt f, .int .i64 0]) ∧ OwnM w' w.heap.size 32 3 (.slice C cnt f) (Gd.gl k nx S len seed cnt) ∧ Below w.heap.size w w' := by
  have n0 := ok.n0
  have n128 := ok.n128
  have k1 := ok.k1
  have k64 := ok.k64
  have sS := ok.s
  have HV := Lib.hid ok.valid
  have hm := hN.1
  obtain ⟨i0, hi, hz0, hz1, hz2⟩ := info_parts info32
  obtain ⟨i3, hi3, hz03, hz13, hz23⟩ := info_parts info3
  have hmk := run_make_row' (P := Try.prog) 77 78 (.slice none 0 0) 24 Try.underlying77 info78 rfl .i64 .i64 nx.length (by omega) (by omega)
  have hmk2 := run_make_row' (P := Try.prog) 78 4 (.bool false) 1 Try.underlying78 info4 rfl .i64 .i64 k (by omega) (by omega)
  go_enter Try.func34, Try.ntmps34
  go_wp2_with fail
  have hbx : Below w.heap.size w (w.alloc (.cells #[.int .i64 k, .int .i64 S, .slice A nx.length c, .slice B out.length d] 62)) := (Below.refl _ _).alloc (Nat.le_refl _) _
  refine (rvalid k S A B c d nx out _ (hN.keep hbx) (hO.keep hbx)).mono ?_
  rintro e w1 ⟨rfl, hb1⟩
  rw [HV.out]
  have hsz : w.heap.size < w1.heap.size := by have := hb1.size; simp at this; omega
  have hw1 : Below w.heap.size w w1 := below_seq hbx hb1
  have c0 : w1.cell? ⟨w.heap.size, 0, none⟩ = some (.int .i64 k) := (hb1.cell (p := ⟨w.heap.size, 0, none⟩) (by simp)).trans (by rw [World.cell?_alloc_at (hn := rfl)]; rfl)
  have c1 : w1.cell? ⟨w.heap.size, 1, none⟩ = some (.int .i64 S) := (hb1.cell (p := ⟨w.heap.size, 1, none⟩) (by simp)).trans (by rw [World.cell?_alloc_at (hn := rfl)]; rfl)
  have c2 : w1.cell? ⟨w.heap.size, 2, none⟩ = some (.slice A nx.length c) := (hb1.cell (p := ⟨w.heap.size, 2, none⟩) (by simp)).trans (by rw [World.cell?_alloc_at (hn := rfl)]; rfl)
  have rN := hN.keep hw1
  clear hN hO hbx hb1
  go_wp2_with (go_at_call 42; refine (sized_yes cnt len _ (by omega) (by omega) (by omega) (by omega)).mono ?_; rintro e w' ⟨rfl, rfl⟩)
  obtain ⟨N, hNN⟩ : ∃ N, N = w1.heap.size := ⟨_, rfl⟩
  rw [← hNN]
  rw [← hNN] at hsz
  have HN := Lib.hid hNN.symm
  clear hNN
  go_loopw [12] (fun i wr => ∃ j : Nat, j ≤ nx.length ∧ i = .int .i64 j ∧ Hid (WM 78 4 (.bool false) w1 wr N nx.length k j)) (fun i _ => nx.length - (intOf i).toNat)
  case atStart => exact ⟨0, Nat.zero_le _, rfl, WM.start HN.out⟩
  case round =>
    obtain ⟨j, hj, rfl, HM⟩ := hrel
    have d0 := (HM.out.low.cell (p := ⟨w.heap.size, 0, none⟩) hsz).trans c0
    by_cases hjn : j < nx.length
    · have hcj := (HM.out.top.alloc (.cells (madeCells #[.bool false] k) 4)).cell hjn
      have hfj := (HM.out.top.alloc (.cells (madeCells #[.bool false] k) 4)).frozen j
      rw [if_neg (by omega)] at hcj
      have HI := Lib.hid (HM.out.make1 hjn)
      clear HM
      go_wp2
      go_roundw
      case rel => exact ⟨j + 1, by omega, by go_num, HI⟩
      case measure => simp [intOf] <;> omega
    · obtain rfl : j = nx.length := by omega
      have HS := Lib.hid (HM.out.full (val := Value.bool))
      have hlow := HM.out.low
      clear HM hmk hmk2
      have hb0 : w.heap.size ≤ wr.heap.size := Nat.le_trans hw1.size hlow.size
      go_wp2
      have hN1 : N + 1 + nx.length ≤ wr.heap.size := HS.out.size
      have hB1 : wr.heap.size ≤ wr.heap.size := Nat.le_refl _
      have hS2 := HS.out
      have hO0 := OwnM.nil wr wr.heap.size 32 3
      obtain ⟨B1, hB1'⟩ : ∃ B1, B1 = wr.heap.size := ⟨_, rfl⟩
      rw [← hB1'] at hN1 hO0
      have hB1 : B1 ≤ wr.heap.size := by omega
      have hbB : w.heap.size ≤ B1 := by omega
      clear HS hlow hb0 hB1' hj hjn
      have hfit := fun j => Lib.hid (Gd.fit_w ok len seed hseed j)
      go_loopw [1, 13, 14] (fun u v i wr => ∃ (j : Nat) (C : Option Addr) (f : Nat), j ≤ cnt ∧ i = .int .i64 j ∧ u = .int .u64 (Gd.gw k nx S len seed j).1 ∧ v = .slice C j f ∧ Hid (OwnM wr B1 32 3 (.slice C j f) (Gd.gl k nx S len seed j)) ∧
        Hid (WS 78 4 Value.bool w1 wr N nx.length k (Gd.gw k nx S len seed j).2.1) ∧ B1 ≤ wr.heap.size) (fun _ _ i _ => cnt - (intOf i).toNat)
      case atStart => exact ⟨0, none, 0, Nat.zero_le _, rfl, rfl, rfl, hO0, hS2, hB1⟩
      case round =>
        clear hB1 hS2 hO0
        obtain ⟨j, C, f, hj, rfl, rfl, rfl, HO, HS, hsz1⟩ := hrel
        have d1 := (HS.out.low.cell (p := ⟨w.heap.size, 1, none⟩) hsz).trans c1
        by_cases hjc : j < cnt
        · obtain ⟨σ, hσ⟩ : ∃ σ, σ = Gd.gw k nx S len seed j := ⟨_, rfl⟩
          have hF := (hfit j).out
          rw [← hσ] at HS hF ⊢
          have HF := Lib.hid hF
          have HSg := Lib.hid hσ
          clear hσ hF
          go_wp2
          have hσS := Lib.hid (show σ.2.2 = S by rw [HSg.out]; exact Gd.gw_S k nx S len seed j)
          obtain ⟨wo, rfl⟩ : ∃ wo : World, wo = wr := ⟨_, rfl⟩
          obtain ⟨Bw, hBw⟩ : ∃ Bw, Bw = wo.heap.size := ⟨_, rfl⟩
          rw [← hBw] at hsz1
          have hsz3 : Bw ≤ wo.heap.size := by omega
          have HBw := Lib.hid hBw
          clear hBw d1
          go_loopw [1, 15, 16, 17] (fun u v s i wi => ∃ (q : Nat) (D : Option Addr) (g : Nat), q ≤ len ∧ i = .int .i64 q ∧ u = .int .u64 (Gd.git k nx σ q).1 ∧ s = .int .i64 (Gd.git k nx σ q).2.2 ∧ v = .slice D q g ∧
            Hid (wi.ownsRow Bw 3 1 (.slice D q g) q ((Gd.gword k nx σ q).map (.int .i64))) ∧ Hid (Mid B1 Bw wo wi) ∧ Hid (WS 78 4 Value.bool w1 wi N nx.length k (Gd.git k nx σ q).2.1) ∧ Bw ≤ wi.heap.size) (fun _ _ _ i _ => len - (intOf i).toNat)
          case atStart => exact ⟨0, none, 0, Nat.zero_le _, rfl, rfl, by rw [Gd.git, hσS.out], rfl, World.ownsRow_nil _ _ _ _, Mid.refl _ _ _, HS, hsz3⟩
          case round =>
            clear hsz3
            clear HS
            obtain ⟨q, D, g, hq, rfl, rfl, rfl, rfl, HR, HM, HS, hszi⟩ := hrel
            have e0 := (HS.out.low.cell (p := ⟨w.heap.size, 0, none⟩) hsz).trans c0
            by_cases hql : q < len
            · have hfq := Gd.fit_it ok HF.out q
              obtain ⟨τ, hτ⟩ : ∃ τ, τ = Gd.git k nx σ q := ⟨_, rfl⟩
              rw [← hτ] at HS hfq ⊢
              obtain ⟨hf1, hf2⟩ := hfq
              have HT := Lib.hid hτ
              clear hτ
              go_wp2
              obtain ⟨wp, rfl⟩ : ∃ wp : World, wp = wr := ⟨_, rfl⟩
              obtain ⟨Bv, hBv⟩ : ∃ Bv, Bv = wp.heap.size := ⟨_, rfl⟩
              have hBv2 : Bw ≤ Bv := by omega
              have hb0 : Below Bv wp wp := Below.refl _ _
              have HBv := Lib.hid hBv
              clear hBv
              go_loopw [18, 19] (fun v i wi => ∃ (b : Nat) (E : Option Addr) (g : Nat), b ≤ k ∧ i = .int .i64 b ∧ v = .slice E b g ∧ Hid (wi.ownsRow Bv 3 1 (.slice E b g) b ((Gd.ws τ.2.1 τ.2.2 b).map (.int .i64))) ∧ Below Bv wp wi) (fun _ i _ => k - (intOf i).toNat)
              case atStart => exact ⟨0, none, 0, Nat.zero_le _, rfl, rfl, World.ownsRow_nil _ _ _ _, hb0⟩
              case round =>
                clear hb0
                obtain ⟨b, E, ge, hb, rfl, rfl, HW, hbel⟩ := hrel
                have hBvs : Bv ≤ wr.heap.size := by have := hbel.size; rw [HBv.out]; rw [HBv.out] at hbel; exact hbel.size
                have e0 := (hbel.cell (p := ⟨w.heap.size, 0, none⟩) (by show w.heap.size < Bv; omega)).trans e0
                by_cases hbk : b < k
                · have hc1 : wr.cell? ⟨N, τ.2.2, none⟩ = some (.slice (some ⟨N + 1 + τ.2.2, 0, none⟩) k k) := (hbel.cell (p := ⟨N, τ.2.2, none⟩) (by show N < Bv; omega)).trans (HS.out.top.cell hf2)
                  have hc2 := (hbel.cell (p := ⟨N + 1 + τ.2.2, b, none⟩) (by show N + 1 + τ.2.2 < Bv; omega)).trans ((HS.out.row τ.2.2 hf2).cell hbk)
                  have hws : Gd.ws τ.2.1 τ.2.2 (b + 1) = Gd.ws τ.2.1 τ.2.2 b ++ [if τ.2.1 τ.2.2 b = true then 1 else 8] := by simp [Gd.ws, List.range_succ]
                  obtain ⟨B0, hB0⟩ : ∃ B0, B0 = τ.2.1 τ.2.2 b := ⟨_, rfl⟩
                  rw [← hB0] at hc2 hws
                  cases B0
                  all_goals
                    simp only [if_true, if_false, Bool.false_eq_true] at hws
                    have HWS := Lib.hid hws
                    clear hws hB0
                    go_wp2_with (at_builtin; refine app1 rfl (.tmp 74) (.tmp 76) 32 3 _ _ rfl Try.underlying32 info3 rfl (by decide) rfl rfl HW.out rfl (by omega) hBvs ?_; intro v' w4 hown' hb' hsz'; obtain ⟨E', g', rfl⟩ := own_slice hown'; have HB4 := Lib.hid hb'; clear hb')
                    go_roundw
                    case rel => exact ⟨b + 1, E', g', by omega, by go_num, rfl, by rw [HWS.out, List.map_append]; exact hown', HB4.out _ _ (Nat.le_refl _) hbel⟩
                    case measure => simp [intOf] <;> omega
                · have hbk' : k = b := by omega
                  subst hbk'
                  have hS2 := Lib.hid (HS.out.keep (hbel.mono (show N + 1 + nx.length ≤ Bv by omega)))
                  have hR2 := Lib.hid (own_keep HR.out (show Below wp.heap.size wp wr by rw [← HBv.out]; exact hbel))
                  have hM2 := Lib.hid (HM.out.trans (Mid.of_below (B := B1) (hbel.mono hBv2)))
                  have hszi2 : Bw ≤ wr.heap.size := by omega
                  clear HS HR HM hszi
                  have HS := hS2
                  have HR := hR2
                  have HM := hM2
                  have hszi := hszi2
                  clear hS2 hR2 hM2 hszi2
                  have hpl := Gd.gpick_lt k τ k1
                  obtain ⟨a, ha⟩ : ∃ a, a = Gd.gpick k τ := ⟨_, rfl⟩
                  rw [← ha] at hpl
                  have hc1 : wr.cell? ⟨N, τ.2.2, none⟩ = some (.slice (some ⟨N + 1 + τ.2.2, 0, none⟩) k k) := HS.out.top.cell hf2
                  have hc2 := (HS.out.row τ.2.2 hf2).cell hpl
                  have hf3 := (HS.out.row τ.2.2 hf2).frozen a
                  have hch := choose_r τ.1 E ge _ wr (own_rd HW.out (by omega)).2 hf1
                  rw [Gd.ws_len, Gd.chv_ws k τ k1 k64, ← ha] at hch
                  obtain ⟨x, hx⟩ : ∃ x, x = (nx.getD τ.2.2 []).getD a 0 := ⟨_, rfl⟩
                  have hxi := Gd.next_int ok hf2 hpl
                  rw [← hx] at hxi
                  have hgs : Gd.gnext k nx τ = (Gd.gseed k τ, Gd.upd τ.2.1 τ.2.2 a, x.toNat) := by unfold Gd.gnext; rw [← ha, ← hx]
                  have hgw : Gd.gword k nx σ (q + 1) = Gd.gword k nx σ q ++ [(a : Int)] := by rw [Gd.gword_succ, ← HT.out, ← ha]
                  have hgi : Gd.git k nx σ (q + 1) = (Gd.gseed k τ, Gd.upd τ.2.1 τ.2.2 a, x.toNat) := by rw [← hgs, HT.out]; rfl
                  have hls : N + 1 + τ.2.2 < Bw := by omega
                  have HSt := Lib.hid (HS.out.store hf2 a)
                  have HRt := Lib.hid (ownsRow_setCell_below HR.out (a := ⟨N + 1 + τ.2.2, a, none⟩) hls (.bool true))
                  have HMt := Lib.hid (HM.out.setCell (p := ⟨N + 1 + τ.2.2, a, none⟩) (by show N + 1 + τ.2.2 < B1; omega) (.bool true))
                  have HRN := Lib.hid rN
                  have HX := Lib.hid hx
                  have HXI := Lib.hid hxi
                  have HGW := Lib.hid hgw
                  have HGI := Lib.hid hgi
                  have HCH := Lib.hid hch
                  have RL := Lib.hid (ok.rowN τ.2.2 hf2)
                  have OKH := Lib.hid ok
                  have HFI := hfit
                  clear hx hxi hgs hgw hgi hch ha HS HR HM d0 HV ok rN hfit HW
                  go_wp2_with fail
                  refine HCH.out.mono ?_
                  rintro e w' ⟨rfl, rfl⟩
                  clear HCH
                  go_wp2_with (at_builtin; refine app1' rfl (.tmp 92) (.tmp 94) 32 3 _ _ rfl Try.underlying32 info3 rfl (by decide) rfl rfl (by simp) HRt.out rfl (by omega) (by simpa using hszi) ?_; intro v' w4 hown' hb' hsz'; obtain ⟨D', g', rfl⟩ := own_slice hown'; have HB4 := Lib.hid hb'; have HS4 := Lib.hid (HSt.out.keep (hb' (N + 1 + nx.length) _ (by omega) (Below.refl _ _))); have d2 := (HS4.out.low.cell (p := ⟨w.heap.size, 2, none⟩) hsz).trans c2; obtain ⟨ad, E, eE, xs, rfl, hxs, cx, rx⟩ := (HRN.out.keep (show Below w1.heap.size w1 w4 by rw [HN.out]; exact HS4.out.low)).at_ hf2; have HXS := Lib.hid hxs; obtain ⟨ad3, x3, rfl, hx3, ct⟩ := rx.at_ (i := a) (by rw [← hxs, RL.out]; exact hpl); have HX3 := Lib.hid hx3; have hal : a < xs.length := (by rw [← hxs, RL.out]; exact hpl); have mlx := rx.1; clear hxs hx3 hb' rx)
                  go_roundw
                  case rel =>
                    refine ⟨q + 1, D', g', by omega, by go_num, by rw [HGI.out], ?_, rfl, by rw [HGW.out, List.map_append]; exact hown', HMt.out.trans (Mid.of_below (HB4.out Bw _ (Nat.le_refl _) (Below.refl _ _))), by rw [HGI.out]; exact HS4.out, hsz'⟩
                    have e3 : x3 = x := by rw [HX.out, HXS.out, HX3.out]
                    rw [HGI.out, e3]
                    exact congrArg (Value.int .i64) HXI.out.1
                  case measure => simp [intOf] <;> omega
            · obtain rfl : q = len := by omega
              have HO2 := Lib.hid (HO.out.mid (by rw [HBw.out]; exact Nat.le_refl _) HM.out)
              have HR2 := Lib.hid (own_mono HR.out hsz1)
              have hgln := Gd.gl_len k nx S q seed j
              have HGN := Lib.hid hgln
              have hgw1 : (Gd.gw k nx S q seed (j + 1)) = ((Gd.git k nx σ q).1, (Gd.git k nx σ q).2.1, S) := by rw [HSg.out]; rfl
              have hgl1 : Gd.gl k nx S q seed (j + 1) = Gd.gl k nx S q seed j ++ [Gd.gword k nx σ q] := by rw [Gd.gl_succ, HSg.out]
              have HGW1 := Lib.hid hgw1
              have HGL1 := Lib.hid hgl1
              have hszb : B1 ≤ wr.heap.size := by omega
              have hO2 := HO2.out
              rw [← hgln] at hO2
              have HO3 := Lib.hid hO2
              clear hgln hgw1 hgl1 d0 HV rN hfit hO2 ok e0
              go_wp2_with (at_builtin; refine appM rfl (.tmp 104) (.tmp 106) 50 32 3 rfl Try.underlying50 info32 (by decide) rfl rfl HO2.out (Gd.gword_len _ _ _ _) HR2.out (by rw [HGN.out]; omega) hszb ?_; intro v' w' hown' hb' hsz'; obtain ⟨A', c', rfl⟩ := hown'.slice)
              go_roundw
              case rel =>
                have hS' := HS.out.keep (hb' (N + 1 + nx.length) _ (by omega) (Below.refl _ _))
                rw [List.length_append, HGN.out] at hown'
                refine ⟨j + 1, A', c', by omega, by go_num, by rw [HGW1.out], ?_, ?_, ?_, hsz'⟩
                · rw [HGN.out]
                · rw [HGL1.out]; exact hown'
                · rw [HGW1.out]; exact hS'
              case measure => simp [intOf] <;> omega
        · obtain rfl : j = cnt := by omega
          have hfin := below_seqB hw1 (Nat.le_refl _) (show Below w1.heap.size w1 wr by rw [HN.out]; exact HS.out.low)
          have HM := HO.out.mono hbB
          go_wp2
          go_ret2
          exact ⟨_, _, rfl, HM, hfin⟩

set_option maxHeartbeats 1000000 in
theorem guided_r_bad (I S : Int) (seed : Nat) (cnt len : Int) (A B : Option Addr) (c d : Nat) (nx out : List (List Int)) (w : World) (hN : RdM .i64 w A nx) (hO : RdM .i64 w B out)
    (hv : Mea.validE I S nx out ≠ 0) :
    Calls Try.prog 34 #[.agg #[.int .i64 I, .int .i64 S, .slice A nx.length c, .slice B out.length d], .int .u64 seed, .int .i64 cnt, .int .i64 len] w fun e w' =>
      e = .returned (.tuple #[.slice none 0 0, .int .i64 (Mea.validE I S nx out)]) ∧ Below w.heap.size w w' := by
  obtain ⟨q, hq⟩ : ∃ q, q = Mea.validE I S nx out := ⟨_, rfl⟩
  rw [← hq] at hv ⊢
  have hb : (q != 0) = true := by rw [bne_iff_ne]; exact hv
  have HQ := Lib.hid hq
  clear hq hv
  go_enter Try.func34, Try.ntmps34
  go_wp2_with fail
  have hbx : Below w.heap.size w (w.alloc (.cells #[.int .i64 I, .int .i64 S, .slice A nx.length c, .slice B out.length d] 62)) := (Below.refl _ _).alloc (Nat.le_refl _) _
  refine (rvalid I S A B c d nx out _ (hN.keep hbx) (hO.keep hbx)).mono ?_
  rintro e w1 ⟨rfl, hb1⟩
  rw [← HQ.out]
  clear hN hO
  go_wp2
  go_ret2
  exact ⟨rfl, below_seq hbx hb1⟩
set_option maxHeartbeats 1000000 in
theorem guided_r_wrong (I S : Int) (seed : Nat) (cnt len : Int) (A B : Option Addr) (c d : Nat) (nx out : List (List Int)) (w : World) (hN : RdM .i64 w A nx) (hO : RdM .i64 w B out)
    (hv : Mea.validE I S nx out = 0) (h : cnt < 0 ∨ 10000 < cnt ∨ len < 0 ∨ 1024 < len) :
    Calls Try.prog 34 #[.agg #[.int .i64 I, .int .i64 S, .slice A nx.length c, .slice B out.length d], .int .u64 seed, .int .i64 cnt, .int .i64 len] w fun e w' =>
      e = .returned (.tuple #[.slice none 0 0, .int .i64 2]) ∧ Below w.heap.size w w' := by
  have HV := Lib.hid hv
  have HH := Lib.hid h
  clear hv h
  go_enter Try.func34, Try.ntmps34
  go_wp2_with fail
  have hbx : Below w.heap.size w (w.alloc (.cells #[.int .i64 I, .int .i64 S, .slice A nx.length c, .slice B out.length d] 62)) := (Below.refl _ _).alloc (Nat.le_refl _) _
  refine (rvalid I S A B c d nx out _ (hN.keep hbx) (hO.keep hbx)).mono ?_
  rintro e w1 ⟨rfl, hb1⟩
  rw [HV.out]
  clear hN hO
  go_wp2_with (go_at_call 42; refine (sized_no cnt len _ HH.out).mono ?_; rintro e w' ⟨rfl, rfl⟩)
  go_ret2
  exact ⟨rfl, below_seq hbx hb1⟩
end Go.Proofs.Ythemmbdhhjelcaa
