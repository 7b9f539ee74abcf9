/- The code's step of the unfolding. -/
import Derived.Test.YtaoebjabdejpoaaRunR
import Derived.Test.YtaoebjabdejpoaaUnf
namespace Go.Proofs.Ytaoebjabdejpoaa
open Go.RowKit

/-- the cells of a state of the unfolding -/
def ucs (c : Rg.Uc) : Array Value := #[.int .i64 c.1, .int .i64 (c.2.1.getD 0 0), .int .i64 (c.2.1.getD 1 0), .int .i64 (c.2.1.getD 2 0), .int .i64 (c.2.1.getD 3 0), .int .i64 (c.2.2 : Nat)]
theorem ucs_one (c : Rg.Uc) : (ucs c).all (·.oneCell') = true := by simp [ucs, Value.oneCell']
set_option linter.unusedSimpArgs false
set_option maxRecDepth 100000 in
set_option maxHeartbeats 4000000 in
theorem ustep_p (m : Rg.M) (k s d x : Nat) (uc : Rg.Uc) (A B : Option Addr) (c e : Nat) (w : World) (hok : Rg.Ok m k s) (hd1 : 1 ≤ d) (hd : d ≤ 6) (hc : Rg.UcOk m d uc) (hx : x < k * (d + 1)) (hx2 : x ≤ 1000) (hR : RdA w A B m) :
    Calls Try.prog 40 #[.agg #[.int .i64 m.I, .int .i64 m.S, .slice A m.rg.length c, .slice B m.tr.length e], .int .i64 d, .agg (ucs uc), .int .i64 x] w fun r w' => r = .returned (.tuple #[.agg (ucs (Rg.uN m d uc x)), .int .i64 (Rg.uO m d uc x)]) ∧ Below w.heap.size w w' := by
  obtain ⟨l, r, n⟩ := uc
  have HM := Lib.hid hok
  have HC := Lib.hid hc
  have HX := Lib.hid hx
  have hn : n ≤ d := hc.n
  have hnb := hok.n128
  have hlb : l < m.rg.length := hc.st.l
  obtain ⟨an, han⟩ : ∃ an, an = x / (d + 1) := ⟨_, rfl⟩
  obtain ⟨jn, hjn⟩ : ∃ jn, jn = x % (d + 1) := ⟨_, rfl⟩
  have hjd : jn < d + 1 := by rw [hjn]; exact Nat.mod_lt _ (by omega)
  have haq : (x : Int) / ((d : Int) + 1) = (an : Int) := by rw [han]; rfl
  have hjq : (x : Int) % ((d : Int) + 1) = (jn : Int) := by rw [hjn]; rfl
  have hat : (x : Int).tdiv ((d : Int) + 1) = (an : Int) := by rw [Int.tdiv_eq_ediv_of_nonneg (by omega)]; exact haq
  have hjt : (x : Int).tmod ((d : Int) + 1) = (jn : Int) := by rw [Int.tmod_eq_emod_of_nonneg (by omega)]; exact hjq
  have hak : an < k := by rw [han]; exact Rg.act_lt hx
  have hax : an ≤ x := by rw [han]; exact Nat.div_le_self _ _
  have HP : Hid (∀ b, Rg.uPoss d n jn = b → Rg.uPoss d n (x % (d + 1)) = b) := Lib.hid (fun b h => by rw [← hjn]; exact h)
  have HAN := Lib.hid han
  have HJN := Lib.hid hjn
  clear hok hc hx han hjn
  have hda : 0 ≤ (d : Int) + 1 := by omega
  have hdw : IntKind.i64.wrap ((d : Int) + 1) = (d : Int) + 1 := IntWalk.i64_in ((d : Int) + 1) (by omega)
  go_enter Try.func40, Try.ntmps40
  go_upto_region 1 with fail
  generalize hwb : World.alloc _ _ = w1
  have BX : Hid (BoxT w1 w.heap.size m A c B e) := Lib.hid (boxT (by rw [← hwb]; exact ((Blk.new _ _ _).alloc _).alloc _))
  have SB : Hid (Blk w1 (w.heap.size + 1) 82 (ucs (l, r, n))) := Lib.hid (by rw [← hwb]; have h1 := (Blk.new (w.alloc (.cells (tc m A c B e) 25)) 82 (ucs (l, r, n))).alloc (.cells #[.int .i64 0, .int .i64 0, .int .i64 0, .int .i64 0, .int .i64 0, .int .i64 0] 82); rw [asize] at h1; exact h1)
  have RB : Hid (Blk w1 (w.heap.size + 1 + 1) 82 #[.int .i64 0, .int .i64 0, .int .i64 0, .int .i64 0, .int .i64 0, .int .i64 0]) := Lib.hid (by rw [← hwb]; have h1 := Blk.new ((w.alloc (.cells (tc m A c B e) 25)).alloc (.cells (ucs (l, r, n)) 82)) 82 #[.int .i64 0, .int .i64 0, .int .i64 0, .int .i64 0, .int .i64 0, .int .i64 0]; rw [asize, asize] at h1; exact h1)
  have HBL : Hid (Below w.heap.size w w1) := Lib.hid (by rw [← hwb]; exact (((Below.refl _ _).alloc (Nat.le_refl _) _).alloc (by simp) _).alloc (by simp; omega) _)
  have HR := Lib.hid (hR.keep HBL.out)
  clear hwb hR
  generalize hgs : w.heap.size + 1 = gs at *
  generalize hgr : gs + 1 = gr at *
  have hger : w.heap.size ≤ gr := by omega
  have hne : gs ≠ gr := by omega
  clear hgs hgr
  go_quiet (fail)
  generalize hwd : World.drewN w1 _ = w2
  have hal : Below w1.heap.size w1 w2 := by rw [← hwd]; exact below_drewN' (Below.refl _ _) _
  replace BX := Lib.hid (BX.out.keep hal)
  replace SB := Lib.hid (SB.out.keep hal)
  replace RB := Lib.hid (RB.out.keep hal)
  replace HBL := Lib.hid (below_seq HBL.out hal)
  replace HR := Lib.hid (HR.out.keep hal)
  clear hwd hal w1 hdw hda
  have s5 : w2.cell? ⟨gs, 5, none⟩ = some (.int .i64 (n : Nat)) := SB.out.cell 5
  have s0 : w2.cell? ⟨gs, 0, none⟩ = some (.int .i64 (l : Nat)) := SB.out.cell 0
  cases hp : Rg.uPoss d n jn with
  | false =>
    have hp' : ¬ ((jn = 0 ∧ n < d) ∨ (0 < jn ∧ jn ≤ n)) := of_decide_eq_false hp
    by_cases hj : jn = 0
    · have e0 : ((jn : Int) == 0) = true := by rw [beq_iff_eq]; omega
      have e0' : (jn == 0) = true := by rw [beq_iff_eq]; exact hj
      have e1 : decide ((d : Int) < (n : Int) + 1) = true := decide_eq_true (by omega)
      clear hj hp'
      have HPN := Lib.hid (HP.out _ hp)
      go_wp2_with (first | (refine wpList_load_row rfl 82 _ rfl gs rfl 82 (ucs (l, r, n)) (0, 0) _ SB.out Try.underlying82 rfl (by kernel_rfl) ?_) | (refine wpList_store_row rfl 82 _ _ rfl gr (ucs (l, r, n)) rfl rfl 82 _ RB.out (by kernel_rfl) rfl (ucs_one _) ?_))
      refine ret_c2 (set_row_blk RB.out) rfl rfl Try.underlying82 rfl (by kernel_rfl) rfl ?_
      rw [Rg.uN_no HPN.out, Rg.uO_no HPN.out]
      exact ⟨rfl, below_row HBL.out hger _⟩
    have e0 : ((jn : Int) == 0) = false := beq_eq_false_iff_ne.2 (by omega)
    have e0' : (jn == 0) = false := beq_eq_false_iff_ne.2 hj
    have e1 : decide ((d : Int) < (n : Int)) = false := decide_eq_false (by omega)
    have e1' : decide (d < n) = false := decide_eq_false (by omega)
    have e2 : decide ((n : Int) < (jn : Int)) = true := decide_eq_true (by omega)
    have e2' : decide (n < jn) = true := decide_eq_true (by omega)
    clear hj hp'
    have HPN := Lib.hid (HP.out _ hp)
    go_wp2_with (first | (refine wpList_load_row rfl 82 _ rfl gs rfl 82 (ucs (l, r, n)) (0, 0) _ SB.out Try.underlying82 rfl (by kernel_rfl) ?_) | (refine wpList_store_row rfl 82 _ _ rfl gr (ucs (l, r, n)) rfl rfl 82 _ RB.out (by kernel_rfl) rfl (ucs_one _) ?_))
    refine ret_c2 (set_row_blk RB.out) rfl rfl Try.underlying82 rfl (by kernel_rfl) rfl ?_
    rw [Rg.uN_no HPN.out, Rg.uO_no HPN.out]
    exact ⟨rfl, below_row HBL.out hger _⟩
  | true =>
    have hp' : (jn = 0 ∧ n < d) ∨ (0 < jn ∧ jn ≤ n) := of_decide_eq_true hp
    by_cases hj : jn = 0
    · have hval : Rg.uVal n jn = n + 1 := if_pos hj
      have hmx : max n (n + 1) = n + 1 := by omega
      have e0 : ((jn : Int) == 0) = true := by rw [beq_iff_eq]; omega
      have e0' : (jn == 0) = true := by rw [beq_iff_eq]; exact hj
      have e1 : decide ((d : Int) < (n : Int) + 1) = false := decide_eq_false (by omega)
      have e2 : decide ((n : Int) + 1 < (n : Int) + 1) = false := decide_eq_false (by omega)
      clear hj hp'
      have HPN := Lib.hid (HP.out _ hp)
      have HV := Lib.hid hval
      have HMX := Lib.hid hmx
      clear hp hval hmx
      go_wp2_with (first | (refine wpList_load_row rfl 25 _ rfl w.heap.size rfl 25 (tc m A c B e) (0, 0) _ BX.out.blk Try.underlying25 rfl (by kernel_rfl) ?_) | (refine wpList_load_any rfl 66 _ rfl ⟨gs, 1, none⟩ rfl [.int .i64 (r.getD 0 0), .int .i64 (r.getD 1 0), .int .i64 (r.getD 2 0), .int .i64 (r.getD 3 0)] _ (SB.out.part 1 _ rfl) Try.underlying66 rfl (by kernel_rfl) ?_))
      refine (move_p m k s l r an ((n + 1 : Nat) : Int) A B c e w2 HM.out HC.out.st hak HR.out).mono ?_
      rintro q wv ⟨rfl, hb⟩
      obtain ⟨⟨l1, r1⟩, hn1⟩ : ∃ st, st = Rg.nxt m (l, r) an ((n + 1 : Nat) : Int) := ⟨_, rfl⟩
      obtain ⟨ov, hov⟩ : ∃ ov, ov = (Rg.tOf m (l, r) an ((n + 1 : Nat) : Int)).out := ⟨_, rfl⟩
      rw [← hn1, ← hov]
      have hovb : 0 ≤ ov ∧ ov ≤ 1048576 := by rw [hov]; exact ⟨(Rg.tOf_ok HM.out HC.out.st hak _).o0, (Rg.tOf_ok HM.out HC.out.st hak _).o1⟩
      have HFN : Hid (Rg.uN m d (l, r, n) x = (l1, r1, n + 1)) := Lib.hid (by
        rw [Rg.uN_yes HPN.out]
        dsimp only
        rw [← HAN.out, ← HJN.out, HV.out, HMX.out]
        show ((Rg.nxt m (l, r) an _).1, (Rg.nxt m (l, r) an _).2, _) = _
        rw [← hn1])
      have HFO : Hid (Rg.uO m d (l, r, n) x = 1 + ov) := Lib.hid (by
        rw [Rg.uO_yes HPN.out]
        dsimp only
        rw [← HAN.out, ← HJN.out, HV.out]
        show 1 + (Rg.tOf m (l, r) an _).out = _
        rw [← hov])
      obtain ⟨ho0, ho1⟩ := hovb
      replace RB := Lib.hid (RB.out.keep hb)
      replace HBL := Lib.hid (below_seq HBL.out hb)
      have hlt := RB.out.lt
      clear hb hn1 hov s0 s5
      have KZ := Blk.new wv 66 (pcs [])
      go_upto_region 9 with (first | (refine wpList_store_row rfl 66 _ _ rfl wv.heap.size (pcs r1) rfl rfl 66 _ KZ (by kernel_rfl) rfl (pcs_one _) ?_))
      generalize hwb : World.setRow _ _ _ = wy
      have hal : Below wv.heap.size wv wy := by rw [← hwb]; exact below_row ((Below.refl _ _).alloc (Nat.le_refl _) _) (Nat.le_refl _) _
      have N14 : Hid (Blk wy wv.heap.size 66 (pcs r1)) := Lib.hid (by rw [← hwb]; exact set_row_blk KZ)
      replace RB := Lib.hid (RB.out.keep hal)
      replace HBL := Lib.hid (below_seq HBL.out hal)
      generalize wv.heap.size = g14 at *
      clear hwb hal KZ hlt wv
      have n14 := N14.out
      have rb := RB.out
      go_wp2_with (first | (refine wpList_load_row rfl 66 _ rfl g14 rfl 66 (#[.int .i64 (r1.getD 0 0), .int .i64 (r1.getD 1 0), .int .i64 (r1.getD 2 0), .int .i64 (r1.getD 3 0)]) (0, 0) _ n14 Try.underlying66 rfl (by kernel_rfl) ?_) | (refine wpList_store_row rfl 82 _ _ rfl gr (ucs (l1, r1, n + 1)) rfl rfl 82 _ rb (by kernel_rfl) rfl (ucs_one _) ?_))
      refine ret_c2 (set_row_blk RB.out) rfl rfl Try.underlying82 rfl (by kernel_rfl) rfl ?_
      rw [HFN.out, HFO.out]
      exact ⟨by rw [Int.add_comm 1 ov]; rfl, below_row HBL.out hger _⟩
    have hval : Rg.uVal n jn = jn := if_neg hj
    have hmx : max n jn = n := by omega
    have e0 : ((jn : Int) == 0) = false := beq_eq_false_iff_ne.2 (by omega)
    have e0' : (jn == 0) = false := beq_eq_false_iff_ne.2 hj
    have e1 : decide ((d : Int) < (n : Int)) = false := decide_eq_false (by omega)
    have e1' : decide (d < n) = false := decide_eq_false (by omega)
    have e2 : decide ((n : Int) < (jn : Int)) = false := decide_eq_false (by omega)
    have e2' : decide (n < jn) = false := decide_eq_false (by omega)
    clear hj hp'
    have HPN := Lib.hid (HP.out _ hp)
    have HV := Lib.hid hval
    have HMX := Lib.hid hmx
    clear hp hval hmx
    go_wp2_with (first | (refine wpList_load_row rfl 25 _ rfl w.heap.size rfl 25 (tc m A c B e) (0, 0) _ BX.out.blk Try.underlying25 rfl (by kernel_rfl) ?_) | (refine wpList_load_any rfl 66 _ rfl ⟨gs, 1, none⟩ rfl [.int .i64 (r.getD 0 0), .int .i64 (r.getD 1 0), .int .i64 (r.getD 2 0), .int .i64 (r.getD 3 0)] _ (SB.out.part 1 _ rfl) Try.underlying66 rfl (by kernel_rfl) ?_))
    refine (move_p m k s l r an (jn : Int) A B c e w2 HM.out HC.out.st hak HR.out).mono ?_
    rintro q wv ⟨rfl, hb⟩
    obtain ⟨⟨l1, r1⟩, hn1⟩ : ∃ st, st = Rg.nxt m (l, r) an (jn : Int) := ⟨_, rfl⟩
    obtain ⟨ov, hov⟩ : ∃ ov, ov = (Rg.tOf m (l, r) an (jn : Int)).out := ⟨_, rfl⟩
    rw [← hn1, ← hov]
    have hovb : 0 ≤ ov ∧ ov ≤ 1048576 := by rw [hov]; exact ⟨(Rg.tOf_ok HM.out HC.out.st hak _).o0, (Rg.tOf_ok HM.out HC.out.st hak _).o1⟩
    have HFN : Hid (Rg.uN m d (l, r, n) x = (l1, r1, n)) := Lib.hid (by
      rw [Rg.uN_yes HPN.out]
      dsimp only
      rw [← HAN.out, ← HJN.out, HV.out, HMX.out]
      show ((Rg.nxt m (l, r) an _).1, (Rg.nxt m (l, r) an _).2, _) = _
      rw [← hn1])
    have HFO : Hid (Rg.uO m d (l, r, n) x = 1 + ov) := Lib.hid (by
      rw [Rg.uO_yes HPN.out]
      dsimp only
      rw [← HAN.out, ← HJN.out, HV.out]
      show 1 + (Rg.tOf m (l, r) an _).out = _
      rw [← hov])
    obtain ⟨ho0, ho1⟩ := hovb
    replace RB := Lib.hid (RB.out.keep hb)
    replace HBL := Lib.hid (below_seq HBL.out hb)
    have hlt := RB.out.lt
    clear hb hn1 hov s0 s5
    have KZ := Blk.new wv 66 (pcs [])
    go_upto_region 9 with (first | (refine wpList_store_row rfl 66 _ _ rfl wv.heap.size (pcs r1) rfl rfl 66 _ KZ (by kernel_rfl) rfl (pcs_one _) ?_))
    generalize hwb : World.setRow _ _ _ = wy
    have hal : Below wv.heap.size wv wy := by rw [← hwb]; exact below_row ((Below.refl _ _).alloc (Nat.le_refl _) _) (Nat.le_refl _) _
    have N14 : Hid (Blk wy wv.heap.size 66 (pcs r1)) := Lib.hid (by rw [← hwb]; exact set_row_blk KZ)
    replace RB := Lib.hid (RB.out.keep hal)
    replace HBL := Lib.hid (below_seq HBL.out hal)
    generalize wv.heap.size = g14 at *
    clear hwb hal KZ hlt wv
    have n14 := N14.out
    have rb := RB.out
    go_wp2_with (first | (refine wpList_load_row rfl 66 _ rfl g14 rfl 66 (#[.int .i64 (r1.getD 0 0), .int .i64 (r1.getD 1 0), .int .i64 (r1.getD 2 0), .int .i64 (r1.getD 3 0)]) (0, 0) _ n14 Try.underlying66 rfl (by kernel_rfl) ?_) | (refine wpList_store_row rfl 82 _ _ rfl gr (ucs (l1, r1, n)) rfl rfl 82 _ rb (by kernel_rfl) rfl (ucs_one _) ?_))
    refine ret_c2 (set_row_blk RB.out) rfl rfl Try.underlying82 rfl (by kernel_rfl) rfl ?_
    rw [HFN.out, HFO.out]
    exact ⟨by rw [Int.add_comm 1 ov]; rfl, below_row HBL.out hger _⟩
end Go.Proofs.Ytaoebjabdejpoaa
