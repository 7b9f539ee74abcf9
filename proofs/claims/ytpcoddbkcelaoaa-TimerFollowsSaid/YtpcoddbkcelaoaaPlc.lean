/- The reference's list of configurations: what it is, and where a configuration is in it. -/
import Derived.Test.YtpcoddbkcelaoaaAftR
import Derived.Test.YtpcoddbkcelaoaaQue
import Derived.Test.YtpcoddbkcelaoaaTks
namespace Go.Proofs.Ytpcoddbkcelaoaa
open Go.RowKit

/-- the cells of a configuration of the reference: its list of bools lies in the block p.2 -/
abbrev elC (T : Nat) (p : Tm.Cfg × Nat) : List Value := [.int .i64 (p.1.1 : Nat), .slice (some ⟨p.2, 0, none⟩) T T]
theorem elC_len (T : Nat) (p : Tm.Cfg × Nat) : (elC T p).length = 2 := rfl
/-- a list of configurations: each with the block of its bools -/
structure RdC (w : World) (A : Option Addr) (T : Nat) (q : List (Tm.Cfg × Nat)) : Prop where
  rd : RdL (elC T) 2 w A q
  row : ∀ (i : Nat) p, q[i]? = some p → w.rowIs p.2 4 T (bits p.1.2) ∧ p.1.2.length = T
theorem RdC.keep {w w' : World} {A : Option Addr} {T : Nat} {q : List (Tm.Cfg × Nat)} (h : RdC w A T q) (hb : Below w.heap.size w w') : RdC w' A T q :=
  ⟨h.rd.keep hb, fun i p hp => ⟨rowIs_keep (h.row i p hp).1 hb, (h.row i p hp).2⟩⟩
theorem RdC.at_ {w : World} {A : Option Addr} {T : Nat} {q : List (Tm.Cfg × Nat)} (h : RdC w A T q) {i : Nat} (hi : i < q.length) :
    ∃ ad s r g, A = some ad ∧ (q.map (·.1))[i]? = some (s, r) ∧ w.cell? (ad.add (i * 2)) = some (.int .i64 (s : Nat)) ∧ w.cell? (ad.add (i * 2 + 1)) = some (.slice (some ⟨g, 0, none⟩) T T) ∧ w.rowIs g 4 T (bits r) ∧ r.length = T := by
  have e : q[i]? = some q[i] := List.getElem?_eq_getElem hi
  obtain ⟨ad, rfl, hc⟩ := h.rd.at_ e
  have h2 := h.row i _ e
  exact ⟨ad, q[i].1.1, q[i].1.2, q[i].2, rfl, by rw [List.getElem?_map, e]; rfl, hc 0 _ rfl, hc 1 _ rfl, h2.1, h2.2⟩
theorem dn (w : World) (n m k : Nat) : ∃ j, (w.drewN (n + m)).drewN k = w.drewN (n + j) := ⟨m + k, by simp [Nat.add_assoc]⟩
theorem equal_q {A B : Option Addr} {c d : Nat} {xs ys : List Bool} {w : World} {T : Nat} {b : Bool} (h : RdB w A xs) (g : RdB w B ys) (hx : xs.length = T) (hy : ys.length = T) (hb : decide (xs = ys) = b) (n m : Nat) :
    Calls Try.prog 29 #[.slice A T c, .slice B T d] (w.drewN (n + m)) fun e w' => e = .returned (.bool b) ∧ ∃ j, w' = w.drewN (n + j) := by
  have := equal_r A B c d xs ys (w.drewN (n + m)) (h.drewN _) (g.drewN _) (by omega)
  rw [hx, hy, hb] at this
  exact this.mono fun e w' ⟨h1, k, h2⟩ => ⟨h1, by rw [h2]; exact dn _ _ _ _⟩
set_option maxHeartbeats 800000 in
theorem place_r (A R : Option Addr) (c r0 T : Nat) (q : List (Tm.Cfg × Nat)) (cf : Tm.Cfg) (w : World) (hq : RdC w A T q) (hB : RdB w R cf.2) (hc : cf.2.length = T) (hT : T ≤ 4) (hn : q.length ≤ 1000000) :
    Calls Try.prog 39 #[.slice A q.length c, .agg #[.int .i64 (cf.1 : Nat), .slice R T r0]] w fun e w' => e = .returned (.int .i64 (Tm.idx (q.map (·.1)) cf : Nat)) ∧ Below w.heap.size w w' := by
  have hm := hq.rd.1
  have HC := Lib.hid hc
  have HN := Lib.hid hn
  have hlen : (q.map (·.1)).length = q.length := by simp
  clear hc hn
  go_enter Try.func39, Try.ntmps39
  go_upto_region 1 with fail
  generalize hw1 : World.alloc _ _ = w1
  have HBL : Hid (Below w.heap.size w w1) := Lib.hid (by rw [← hw1]; exact (Below.refl _ _).alloc (Nat.le_refl _) _)
  have P : Hid (Blk w1 w.heap.size 74 #[.int .i64 (cf.1 : Nat), .slice R T r0]) := Lib.hid (by rw [← hw1]; exact Blk.new _ _ _)
  have HQ := Lib.hid (hq.keep HBL.out)
  have HB := Lib.hid (hB.keep HBL.out)
  have p0 : w1.cell? ⟨w.heap.size, 0, none⟩ = some (.int .i64 (cf.1 : Nat)) := P.out.cell 0
  have p1 : w1.cell? ⟨w.heap.size, 1, none⟩ = some (.slice R T r0) := P.out.cell 1
  clear hw1 hq hB
  have HL := Lib.hid hlen
  clear hlen
  go_wp2_with fail
  go_loopw [5] (fun i wr => ∃ j n : Nat, j ≤ q.length ∧ i = .int .i64 j ∧ wr = w1.drewN n ∧ Hid (j ≤ Tm.idx (q.map (·.1)) cf)) (fun i _ => q.length - (intOf i).toNat)
  case atStart => exact ⟨0, 0, Nat.zero_le _, rfl, rfl, Lib.hid (Nat.zero_le _)⟩
  case round =>
    obtain ⟨j, n, hj, rfl, rfl, HZ⟩ := hrel
    by_cases hjl : j < q.length
    · obtain ⟨ad, s, r, g, rfl, hx, cs, cr, hrow, hrl⟩ := HQ.out.at_ hjl
      have HST := Lib.hid (Tm.idx_step HZ.out hx)
      replace cr := cell_fld cr (by decide)
      have HX := Lib.hid hx
      have HRD := Lib.hid (rowB_rd hrow hrl (by omega))
      have HRL := Lib.hid hrl
      clear hx hrow hrl
      by_cases hs : (s : Int) = (cf.1 : Int)
      · have HS := Lib.hid hs
        obtain rfl : s = cf.1 := by omega
        clear hs
        cases hb : decide (r = cf.2) with
        | true =>
          have HE := Lib.hid (fun m => equal_q (c := T) (d := r0) HRD.out HB.out HRL.out HC.out hb n m)
          have HFIN := Lib.hid (show Tm.idx (q.map (·.1)) cf = j from HST.out.1 (by have h1 := of_decide_eq_true hb; rw [h1]))
          clear hb
          go_wp2_with fail
          go_quiet ((go_at_call 29; exact HE.out _))
          go_wp2
          go_ret
          exact ⟨by rw [HFIN.out]; rfl, below_drewN' (below_drewN' HBL.out _) _⟩
        | false =>
          have HE := Lib.hid (fun m => equal_q (c := T) (d := r0) HRD.out HB.out HRL.out HC.out hb n m)
          have HN2 := Lib.hid (show j + 1 ≤ Tm.idx (q.map (·.1)) cf from HST.out.2 (by have h1 := of_decide_eq_false hb; intro e; exact h1 (congrArg Prod.snd e)))
          clear hb
          go_wp2_with fail
          go_quiet ((go_at_call 29; exact HE.out _))
          go_wp2
          go_roundw
          case rel => exact ⟨j + 1, _, by omega, by go_num, rfl, HN2⟩
          case measure => simp [intOf] <;> omega
      · have HS := Lib.hid hs
        have hse : decide ((s : Int) = (cf.1 : Int)) = false := decide_eq_false hs
        have hs2 : decide (s = cf.1) = false := decide_eq_false (by omega)
        have hs3 : (s == cf.1) = false := beq_eq_false_iff_ne.2 (by omega)
        have hs4 : ((s : Int) == (cf.1 : Int)) = false := beq_eq_false_iff_ne.2 (by omega)
        have HN2 := Lib.hid (show j + 1 ≤ Tm.idx (q.map (·.1)) cf from HST.out.2 (by intro e; apply HS.out; rw [show s = cf.1 from congrArg Prod.fst e]))
        clear hs
        go_wp2_with fail
        go_quiet (fail)
        go_wp2
        go_roundw
        case rel => exact ⟨j + 1, _, by omega, by go_num, rfl, HN2⟩
        case measure => simp [intOf] <;> omega
    · obtain rfl : j = q.length := by omega
      have HFIN := Lib.hid (show Tm.idx (q.map (·.1)) cf = q.length by have h1 := HZ.out; have h2 := Tm.idx_le (q.map (·.1)) cf; have h3 := HL.out; omega)
      go_wp2
      go_ret
      exact ⟨by rw [HFIN.out]; rfl, below_drewN' HBL.out _⟩
end Go.Proofs.Ytpcoddbkcelaoaa
