/- The reference's list of states of the unfolding: what it is, and where a state is in it. -/
import Derived.Test.YtaoebjabdejpoaaUsR
namespace Go.Proofs.Ytaoebjabdejpoaa
open Go.RowKit

/-- a state of the reference and where its registers lie -/
abbrev Ps := Rg.Uc × Option Addr × Nat
abbrev elS (p : Ps) : List Value := [.int .i64 (p.1.1 : Nat), .slice p.2.1 p.1.2.1.length p.2.2, .int .i64 (p.1.2.2 : Nat)]
theorem elS_len (p : Ps) : (elS p).length = 3 := rfl
structure RdC (w : World) (A : Option Addr) (q : List Ps) : Prop where
  rd : RdL elS 3 w A q
  row : ∀ (i : Nat) p, q[i]? = some p → Rd w p.2.1 p.1.2.1
theorem RdC.keep {w w' : World} {A : Option Addr} {q : List Ps} (h : RdC w A q) (hb : Below w.heap.size w w') : RdC w' A q :=
  ⟨h.rd.keep hb, fun i p hp => (h.row i p hp).keep hb⟩
theorem RdC.at_ {w : World} {A : Option Addr} {q : List Ps} (h : RdC w A q) {i : Nat} (hi : i < q.length) :
    ∃ ad l r n B cb, A = some ad ∧ q[i]? = some ((l, r, n), B, cb) ∧ w.cell? (ad.add (i * 3)) = some (.int .i64 (l : Nat)) ∧ w.cell? (ad.add (i * 3 + 1)) = some (.slice B r.length cb) ∧ w.cell? (ad.add (i * 3 + 2)) = some (.int .i64 (n : Nat)) ∧ Rd w B r := by
  have e : q[i]? = some q[i] := List.getElem?_eq_getElem hi
  obtain ⟨ad, rfl, hc⟩ := h.rd.at_ e
  have h2 := h.row i _ e
  exact ⟨ad, q[i].1.1, q[i].1.2.1, q[i].1.2.2, q[i].2.1, q[i].2.2, rfl, e, hc 0 _ rfl, hc 1 _ rfl, hc 2 _ rfl, h2⟩
set_option maxHeartbeats 1600000 in
theorem place_r (A R : Option Addr) (c r0 : Nat) (q : List Ps) (cl cn : Nat) (cr : List Int) (w : World) (hq : RdC w A q) (hB : Rd w R cr) (hn : q.length ≤ 1000000) :
    Calls Try.prog 42 #[.slice A q.length c, .agg #[.int .i64 (cl : Nat), .slice R cr.length r0, .int .i64 (cn : Nat)]] w fun e w' => e = .returned (.int .i64 (Rg.idx (q.map (·.1)) (cl, cr, cn) : Nat)) ∧ Below w.heap.size w w' := by
  have hm := hq.rd.1
  have HN := Lib.hid hn
  have hlen : (q.map (·.1)).length = q.length := by simp
  clear hn
  go_enter Try.func42, Try.ntmps42
  go_upto_region 1 with fail
  generalize hw1 : World.alloc _ _ = w1
  have HBL : Hid (Below w.heap.size w w1) := Lib.hid (by rw [← hw1]; exact (Below.refl _ _).alloc (Nat.le_refl _) _)
  have P : Hid (Blk w1 w.heap.size 70 #[.int .i64 (cl : Nat), .slice R cr.length r0, .int .i64 (cn : Nat)]) := Lib.hid (by rw [← hw1]; exact Blk.new _ _ _)
  have HQ := Lib.hid (hq.keep HBL.out)
  have HB := Lib.hid (hB.keep HBL.out)
  have mr := hB.1
  have p0 : w1.cell? ⟨w.heap.size, 0, none⟩ = some (.int .i64 (cl : Nat)) := P.out.cell 0
  have p1 : w1.cell? ⟨w.heap.size, 1, none⟩ = some (.slice R cr.length r0) := P.out.cell 1
  have p2 : w1.cell? ⟨w.heap.size, 2, none⟩ = some (.int .i64 (cn : Nat)) := P.out.cell 2
  clear hw1 hq hB
  have HL := Lib.hid hlen
  clear hlen
  go_wp2_with fail
  go_loopw [5] (fun i wr => ∃ j n : Nat, j ≤ q.length ∧ i = .int .i64 j ∧ wr = w1.drewN n ∧ Hid (j ≤ Rg.idx (q.map (·.1)) (cl, cr, cn))) (fun i _ => q.length - (intOf i).toNat)
  case atStart => exact ⟨0, 0, Nat.zero_le _, rfl, rfl, Lib.hid (Nat.zero_le _)⟩
  case round =>
    obtain ⟨j, n, hj, rfl, rfl, HZ⟩ := hrel
    by_cases hjl : j < q.length
    · obtain ⟨ad, s, rr, nn, B, cb, rfl, hx, cs, cc, cq, hrow⟩ := HQ.out.at_ hjl
      have hx2 : (q.map (·.1))[j]? = some (s, rr, nn) := by rw [List.getElem?_map, hx]; rfl
      have HST := Lib.hid (Rg.idx_step HZ.out hx2)
      replace cc := cell_fld cc (by decide)
      replace cq := cell_fld cq (by decide)
      have HRD := Lib.hid hrow
      have mrr := hrow.1
      clear hx hx2 hrow
      by_cases hs : s = cl
      rotate_left
      · have hse : decide ((s : Int) = (cl : Int)) = false := decide_eq_false (by omega)
        have hs2 : decide (s = cl) = false := decide_eq_false hs
        have hs3 : (s == cl) = false := beq_eq_false_iff_ne.2 hs
        have hs4 : ((s : Int) == (cl : Int)) = false := beq_eq_false_iff_ne.2 (by omega)
        have HN2 := Lib.hid (show j + 1 ≤ Rg.idx (q.map (·.1)) (cl, cr, cn) from HST.out.2 (by intro e; exact hs (congrArg (fun z => z.1) e)))
        clear hs
        go_wp2_with fail
        go_quiet (fail)
        go_wp2
        go_roundw
        case rel => exact ⟨j + 1, _, by omega, by go_num, rfl, HN2⟩
        case measure => simp [intOf] <;> omega
      subst hs
      by_cases hs : nn = cn
      rotate_left
      · have hse : decide ((nn : Int) = (cn : Int)) = false := decide_eq_false (by omega)
        have hs2 : decide (nn = cn) = false := decide_eq_false hs
        have hs3 : (nn == cn) = false := beq_eq_false_iff_ne.2 hs
        have hs4 : ((nn : Int) == (cn : Int)) = false := beq_eq_false_iff_ne.2 (by omega)
        have HN2 := Lib.hid (show j + 1 ≤ Rg.idx (q.map (·.1)) (s, cr, cn) from HST.out.2 (by intro e; exact hs (congrArg (fun z => z.2.2) e)))
        clear hs
        go_wp2_with fail
        go_quiet (fail)
        go_wp2
        go_roundw
        case rel => exact ⟨j + 1, _, by omega, by go_num, rfl, HN2⟩
        case measure => simp [intOf] <;> omega
      subst hs
      cases hb : decide (rr = cr) with
      | true =>
        have HE := Lib.hid (fun m => ints_q (c := cb) (d := r0) HRD.out HB.out hb n m)
        have HFIN := Lib.hid (show Rg.idx (q.map (·.1)) (s, cr, nn) = j from HST.out.1 (by have h1 := of_decide_eq_true hb; rw [h1]))
        clear hb
        go_wp2_with fail
        go_quiet ((go_at_call 15; exact HE.out _))
        go_wp2
        go_ret
        exact ⟨by rw [HFIN.out]; rfl, below_drewN' (below_drewN' HBL.out _) _⟩
      | false =>
        have HE := Lib.hid (fun m => ints_q (c := cb) (d := r0) HRD.out HB.out hb n m)
        have HN2 := Lib.hid (show j + 1 ≤ Rg.idx (q.map (·.1)) (s, cr, nn) from HST.out.2 (by have h1 := of_decide_eq_false hb; intro e; exact h1 (congrArg (fun z => z.2.1) e)))
        clear hb
        go_wp2_with fail
        go_quiet ((go_at_call 15; exact HE.out _))
        go_wp2
        go_roundw
        case rel => exact ⟨j + 1, _, by omega, by go_num, rfl, HN2⟩
        case measure => simp [intOf] <;> omega
    · obtain rfl : j = q.length := by omega
      have HFIN := Lib.hid (show Rg.idx (q.map (·.1)) (cl, cr, cn) = q.length by have h1 := HZ.out; have h2 := Rg.idx_le (q.map (·.1)) (cl, cr, cn); have h3 := HL.out; omega)
      go_wp2
      go_ret
      exact ⟨by rw [HFIN.out]; rfl, below_drewN' HBL.out _⟩
end Go.Proofs.Ytaoebjabdejpoaa
