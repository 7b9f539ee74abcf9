/- The reference's step of the unfolding. -/
import Derived.Test.YtaoebjabdejpoaaUst
namespace Go.Proofs.Ytaoebjabdejpoaa
open Go.RowKit

set_option linter.unusedSimpArgs false
set_option maxRecDepth 100000 in
set_option maxHeartbeats 8000000 in
theorem after_r (m : Rg.M) (k s d x l n : Nat) (r : List Int) (A B R : Option Addr) (c e rc : Nat) (w : World) (hok : Rg.Ok m k s) (hd1 : 1 ≤ d) (hd : d ≤ 6) (hc : Rg.UcOk m d (l, r, n)) (hx : x < k * (d + 1)) (hx2 : x ≤ 1000) (hR : RdA w A B m) (hrr : Rd w R r) :
    Calls Try.prog 41 #[.agg #[.int .i64 m.I, .int .i64 m.S, .slice A m.rg.length c, .slice B m.tr.length e], .agg #[.int .i64 (l : Nat), .slice R r.length rc, .int .i64 (n : Nat)], .int .i64 x, .int .i64 d] w fun q w' =>
      (∃ R' rc', q = .returned (.tuple #[.agg #[.int .i64 ((Rg.uN m d (l, r, n) x).1 : Nat), .slice R' (Rg.uN m d (l, r, n) x).2.1.length rc', .int .i64 ((Rg.uN m d (l, r, n) x).2.2 : Nat)], .int .i64 (Rg.uO m d (l, r, n) x)]) ∧ Rd w' R' (Rg.uN m d (l, r, n) x).2.1 ∧
        (Rg.uPoss d n (x % (d + 1)) = true → OwnL elI 1 w' w.heap.size 3 (.slice R' (Rg.uN m d (l, r, n) x).2.1.length rc') (Rg.uN m d (l, r, n) x).2.1) ∧ (Rg.uPoss d n (x % (d + 1)) = false → R' = R)) ∧ Below w.heap.size w w' := by
  have HM := Lib.hid hok
  have HC := Lib.hid hc
  have hn : n ≤ d := hc.n
  have hr4 : r.length ≤ 4 := hc.st.r4 hok
  have hnb := hok.n128
  have hlb : l < m.rg.length := hc.st.l
  obtain ⟨an, han⟩ : ∃ an, an = x / (d + 1) := ⟨_, rfl⟩
  obtain ⟨jn, hjn⟩ : ∃ jn, jn = x % (d + 1) := ⟨_, rfl⟩
  have hjd : jn < d + 1 := by rw [hjn]; exact Nat.mod_lt _ (by omega)
  have haq : (x : Int) / ((d : Int) + 1) = (an : Int) := by rw [han]; rfl
  have hjq : (x : Int) % ((d : Int) + 1) = (jn : Int) := by rw [hjn]; rfl
  have hat : (x : Int).tdiv ((d : Int) + 1) = (an : Int) := by rw [Int.tdiv_eq_ediv_of_nonneg (by omega)]; exact haq
  have hjt : (x : Int).tmod ((d : Int) + 1) = (jn : Int) := by rw [Int.tmod_eq_emod_of_nonneg (by omega)]; exact hjq
  have hak : an < k := by rw [han]; exact Rg.act_lt hx
  have hax : an ≤ x := by rw [han]; exact Nat.div_le_self _ _
  have HP : Hid (∀ b, Rg.uPoss d n jn = b → Rg.uPoss d n (x % (d + 1)) = b) := Lib.hid (fun b h => by rw [← hjn]; exact h)
  have HAN := Lib.hid han
  have HJN := Lib.hid hjn
  have HPB : Hid (possB (jn : Int) (n : Int) (d : Int) = Rg.uPoss d n jn) := Lib.hid (by
    unfold possB Rg.uPoss
    rw [← Bool.decide_or]
    exact decide_eq_decide.2 (by omega))
  clear hok hc hx han hjn
  have hda : 0 ≤ (d : Int) + 1 := by omega
  have hdw : IntKind.i64.wrap ((d : Int) + 1) = (d : Int) + 1 := IntWalk.i64_in ((d : Int) + 1) (by omega)
  have hdz : ((d : Int) + 1 == 0) = false := beq_eq_false_iff_ne.2 (by omega)
  have hdn : ¬ ((d : Int) + 1 = 0) := by omega
  have hanw : IntKind.i64.wrap (an : Int) = (an : Int) := IntWalk.i64_in (an : Int) (by omega)
  go_enter Try.func41, Try.ntmps41
  go_upto_region 1 with fail
  generalize hwb : World.alloc _ _ = w2
  have BX : Hid (BoxT w2 w.heap.size m A c B e) := Lib.hid (boxT (by rw [← hwb]; exact ((Blk.new _ _ _).alloc _).alloc _))
  have SB : Hid (Blk w2 (w.heap.size + 1) 70 #[.int .i64 (l : Nat), .slice R r.length rc, .int .i64 (n : Nat)]) := Lib.hid (by rw [← hwb]; have h1 := (Blk.new (w.alloc (.cells (tc m A c B e) 25)) 70 #[.int .i64 (l : Nat), .slice R r.length rc, .int .i64 (n : Nat)]).alloc (.cells #[.int .i64 0, .slice none 0 0, .int .i64 0] 70); rw [asize] at h1; exact h1)
  have RB : Hid (Blk w2 (w.heap.size + 1 + 1) 70 #[.int .i64 0, .slice none 0 0, .int .i64 0]) := Lib.hid (by rw [← hwb]; have h1 := Blk.new ((w.alloc (.cells (tc m A c B e) 25)).alloc (.cells #[.int .i64 (l : Nat), .slice R r.length rc, .int .i64 (n : Nat)] 70)) 70 #[.int .i64 0, .slice none 0 0, .int .i64 0]; rw [asize, asize] at h1; exact h1)
  have HBL : Hid (Below w.heap.size w w2) := Lib.hid (by rw [← hwb]; exact (((Below.refl _ _).alloc (Nat.le_refl _) _).alloc (by simp) _).alloc (by simp; omega) _)
  have HR := Lib.hid (hR.keep HBL.out)
  have HRR := Lib.hid (hrr.keep HBL.out)
  have HR0 := Lib.hid hrr
  clear hwb hR hrr
  generalize hgs : w.heap.size + 1 = gs at *
  generalize hgr : gs + 1 = gr at *
  have hger : w.heap.size ≤ gr := by omega
  have hne : gs ≠ gr := by omega
  clear hgs hgr
  have s2 : w2.cell? ⟨gs, 2, none⟩ = some (.int .i64 (n : Nat)) := SB.out.cell 2
  cases hp : Rg.uPoss d n jn with
  | false =>
    have HPN := Lib.hid (HP.out _ hp)
    have HPS := Lib.hid ((show possB (jn : Int) (n : Int) (d : Int) = false by rw [HPB.out, hp]) ▸ possible_r (jn : Int) (n : Int) (d : Int))
    clear hp hanw hdz hdn
    go_wp2_with (first | (go_at_call 39; refine (HPS.out _).mono ?_; rintro r w' ⟨rfl, rfl⟩) | (refine wpList_load_row rfl 70 _ rfl gs rfl 70 (#[.int .i64 (l : Nat), .slice R r.length rc, .int .i64 (n : Nat)]) (0, 0) _ SB.out Try.underlying70 rfl (by kernel_rfl) ?_) | (refine wpList_store_row rfl 70 _ _ rfl gr #[.int .i64 (l : Nat), .slice R r.length rc, .int .i64 (n : Nat)] rfl rfl 70 _ RB.out (by kernel_rfl) rfl (by simp [Value.oneCell']) ?_))
    refine ret_c2 (set_row_blk RB.out) rfl rfl Try.underlying70 rfl (by kernel_rfl) rfl ?_
    have hB := below_row (cs := #[.int .i64 (l : Nat), .slice R r.length rc, .int .i64 (n : Nat)]) HBL.out hger
    rw [Rg.uN_no HPN.out, Rg.uO_no HPN.out]
    exact ⟨⟨R, rc, rfl, HR0.out.keep hB, fun h => absurd h (by rw [HPN.out]; simp), fun _ => rfl⟩, hB⟩
  | true =>
    have hp' : (jn = 0 ∧ n < d) ∨ (0 < jn ∧ jn ≤ n) := of_decide_eq_true hp
    have HPS := Lib.hid ((show possB (jn : Int) (n : Int) (d : Int) = true by rw [HPB.out, hp]) ▸ possible_r (jn : Int) (n : Int) (d : Int))
    by_cases hj : jn = 0
    · have hval : Rg.uVal n jn = n + 1 := if_pos hj
      have hmx : max n (n + 1) = n + 1 := by omega
      have e0 : ((jn : Int) == 0) = true := by rw [beq_iff_eq]; omega
      have e0' : (jn == 0) = true := by rw [beq_iff_eq]; exact hj
      clear hj hp'
      obtain ⟨v, hvd⟩ : ∃ v, v = ((n + 1 : Nat) : Int) := ⟨_, rfl⟩
      obtain ⟨vn, hvn⟩ : ∃ vn, vn = n + 1 := ⟨_, rfl⟩
      have HPN := Lib.hid (HP.out _ hp)
      obtain ⟨⟨l1, r1⟩, hn1⟩ : ∃ st, st = Rg.nxt m (l, r) an v := ⟨_, rfl⟩
      obtain ⟨ov, hov⟩ : ∃ ov, ov = (Rg.tOf m (l, r) an v).out := ⟨_, rfl⟩
      have hovb : 0 ≤ ov ∧ ov ≤ 1048576 := by rw [hov]; exact ⟨(Rg.tOf_ok HM.out HC.out.st hak _).o0, (Rg.tOf_ok HM.out HC.out.st hak _).o1⟩
      have HFN : Hid (Rg.uN m d (l, r, n) x = (l1, r1, vn)) := Lib.hid (by
        rw [Rg.uN_yes HPN.out]
        dsimp only
        rw [← HAN.out, ← HJN.out, hval, hmx, hvn]
        show ((Rg.nxt m (l, r) an _).1, (Rg.nxt m (l, r) an _).2, _) = _
        rw [hvd] at hn1
        rw [← hn1])
      have HFO : Hid (Rg.uO m d (l, r, n) x = 1 + ov) := Lib.hid (by
        rw [Rg.uO_yes HPN.out]
        dsimp only
        rw [← HAN.out, ← HJN.out, hval]
        show 1 + (Rg.tOf m (l, r) an _).out = _
        rw [hvd] at hov
        rw [← hov])
      have HRL1 : Hid (r1.length ≤ 4) := Lib.hid (by have h1 := (Rg.nxt_ok HM.out HC.out.st hak v).r4 HM.out; rw [← hn1] at h1; exact h1)
      have HNX := Lib.hid (And.intro hn1 hov)
      obtain ⟨ho0, ho1⟩ := hovb
      have HMXI : Hid ((if (n : Int) < v then v else (n : Int)) = (vn : Int)) := Lib.hid (by rw [hvd, hvn]; split <;> omega)
      have HVD := Lib.hid hvd
      have hvdx : (n : Int) + 1 = v := hvd.symm
      have HVD2 : Hid ((n : Int) + 1 = v) := Lib.hid hvd.symm
      clear hn1 hov hp hval hmx hvn hvd
      go_upto_region 7 with (first | (go_at_call 39; refine (HPS.out _).mono ?_; rintro r w' ⟨rfl, rfl⟩))
      clear e0 e0' hvdx
      go_cut [12, 13] (fun p o wx => ∃ (R1 : Option Addr) (rc1 g11 : Nat), p = .pointer (some ⟨g11, 0, none⟩) ∧ o = .int .i64 ov ∧ Blk wx g11 70 #[.int .i64 (l1 : Nat), .slice R1 r1.length rc1, .int .i64 (n : Nat)] ∧ OwnL elI 1 wx w2.heap.size 3 (.slice R1 r1.length rc1) r1 ∧ w2.heap.size ≤ g11 ∧ Below w2.heap.size w2 wx)
      case first =>
        refine wp_region_held_drew (S := fun wx => Below w2.heap.size w2 wx) (by kernel_rfl) ((Below.refl _ _).drew) (fun hS => ?_)
        refine takeH (i := 0) (d := some 32) (v := .agg #[.int .i64 m.I, .int .i64 m.S, .slice A m.rg.length c, .slice B m.tr.length e]) rfl rfl (by kernel_rfl) (by kernel_rfl) (by kernel_rfl) (fun _ _ _ h => h) (yieldsIf_load_any (by rfl) 25 _ rfl ⟨w.heap.size, 0, none⟩ rfl [.int .i64 m.I, .int .i64 m.S, .slice A m.rg.length c, .slice B m.tr.length e] _ (fun wx hSx => ((BX.out.keep hSx).blk.part 0 _ rfl)) Try.underlying25 rfl (by kernel_rfl)) hS ?_
        simp only [Act.put, List.setIfInBounds_toArray, List.set_cons_zero, List.set_cons_succ]
        refine takeH (i := 1) (d := some 33) (v := .agg #[.int .i64 (l : Nat), .slice R r.length rc, .int .i64 (n : Nat)]) rfl rfl (by kernel_rfl) (by kernel_rfl) (by kernel_rfl) (fun _ _ _ h => h) (yieldsIf_load_any (by rfl) 70 _ rfl ⟨gs, 0, none⟩ rfl [.int .i64 (l : Nat), .slice R r.length rc, .int .i64 (n : Nat)] _ (fun wx hSx => ((SB.out.keep hSx).part 0 _ rfl)) Try.underlying70 rfl (by kernel_rfl)) hS ?_
        simp only [Act.put, List.setIfInBounds_toArray, List.set_cons_zero, List.set_cons_succ]
        refine takeH (i := 2) (d := some 34) (v := ?_) rfl rfl (by kernel_rfl) (by kernel_rfl) (by kernel_rfl) (fun _ _ _ h => h) (Or.inl ⟨by rfl, ?_⟩) hS ?_
        rotate_left
        · intro wx hSx; clear hSx; first | (go_simp; done) | (go_simp; with_reducible rfl)
        simp only [Act.put, List.setIfInBounds_toArray, List.set_cons_zero, List.set_cons_succ]
        refine takeH (i := 3) (d := some 35) (v := ?_) rfl rfl (by kernel_rfl) (by kernel_rfl) (by kernel_rfl) (fun _ _ _ h => h) (Or.inl ⟨by rfl, ?_⟩) hS ?_
        rotate_left
        · intro wx hSx; clear hSx; first | (go_simp; done) | (go_simp; with_reducible rfl)
        simp only [Act.put, List.setIfInBounds_toArray, List.set_cons_zero, List.set_cons_succ]
        refine takeH (i := 4) (d := some 36) (v := ?_) rfl rfl (by kernel_rfl) (by kernel_rfl) (by kernel_rfl) (fun _ _ _ h => h) (Or.inl ⟨by rfl, ?_⟩) hS ?_
        rotate_left
        · intro wx hSx; clear hSx; first | (go_simp; done) | (go_simp; with_reducible rfl)
        simp only [Act.put, List.setIfInBounds_toArray, List.set_cons_zero, List.set_cons_succ]
        refine takeH (i := 5) (d := some 37) (v := ?_) rfl rfl (by kernel_rfl) (by kernel_rfl) (by kernel_rfl) (fun _ _ _ h => h) (Or.inl ⟨by rfl, ?_⟩) hS ?_
        rotate_left
        · intro wx hSx; clear hSx; first | (go_simp; done) | (go_simp; with_reducible rfl)
        simp only [Act.put, List.setIfInBounds_toArray, List.set_cons_zero, List.set_cons_succ]
        refine takeH (i := 6) (d := some 38) (v := ?_) rfl rfl (by kernel_rfl) (by kernel_rfl) (by kernel_rfl) (fun _ _ _ h => h) (Or.inl ⟨by rfl, ?_⟩) hS ?_
        rotate_left
        · intro wx hSx; clear hSx; first | (go_simp; done) | (go_simp; with_reducible rfl)
        simp only [Act.put, List.setIfInBounds_toArray, List.set_cons_zero, List.set_cons_succ]
        generalize hwa : World.drew _ = wa at hS ⊢
        clear hwa
        have HSa := Lib.hid hS
        clear hS
        refine wpAnyH_ready (rs := [7, 11]) (by kernel_rfl) (by simp) ?_
        refine AllReadyH.cons rfl (fun K hK => ?_) (AllReadyH.cons rfl (fun K hK => ?_) AllReadyH.nil)
        · skip
          rw [if_pos (by rfl)]
          try go_simp
          refine (step_r m k s l r an v (n : Int) A B R c e rc wa HM.out HC.out.st hak (HR.out.keep HSa.out) (HRR.out.keep HSa.out)).mono ?_
          rintro qq wv ⟨⟨u1, rfl, hu1⟩, hb⟩
          rw [← HNX.out.1] at hu1
          rw [← HNX.out.1, ← HNX.out.2]
          replace hu1 : OwnL elI 1 wv wa.heap.size 3 u1 r1 := hu1
          obtain ⟨R1, rc1, hR1⟩ := own_slice hu1
          subst hR1
          have HU1 := Lib.hid (own_mono hu1 HSa.out.size)
          refine hK.out _ _ (below_seq HSa.out hb) (fun hS2 => ?_)
          clear hK K
          try simp only [Act.put, List.setIfInBounds_toArray, List.set_cons_zero, List.set_cons_succ]
          replace HSa := Lib.hid hS2
          clear hS2 hb hu1 wa
          rename World => wa
          refine takeH (i := 8) (d := some 31) (v := ?_) rfl rfl (by kernel_rfl) (by kernel_rfl) (by kernel_rfl) (fun _ _ _ h => h) (Or.inl ⟨by rfl, ?_⟩) HSa.out ?_
          rotate_left
          · intro wx hSx; clear hSx; first | (go_simp; done) | (go_simp; with_reducible rfl)
          simp only [Act.put, List.setIfInBounds_toArray, List.set_cons_zero, List.set_cons_succ]
          refine takeH (i := 9) (d := some 40) (v := ?_) rfl rfl (by kernel_rfl) (by kernel_rfl) (by kernel_rfl) (fun _ _ _ h => h) (Or.inl ⟨by rfl, ?_⟩) HSa.out ?_
          rotate_left
          · intro wx hSx; clear hSx; first | (go_simp; done) | (go_simp; with_reducible rfl)
          simp only [Act.put, List.setIfInBounds_toArray, List.set_cons_zero, List.set_cons_succ]
          refine takeH (i := 10) (d := some 41) (v := ?_) rfl rfl (by kernel_rfl) (by kernel_rfl) (by kernel_rfl) (fun _ _ _ h => h) (Or.inl ⟨by rfl, ?_⟩) HSa.out ?_
          rotate_left
          · intro wx hSx; clear hSx; first | (go_simp; done) | (go_simp; with_reducible rfl)
          simp only [Act.put, List.setIfInBounds_toArray, List.set_cons_zero, List.set_cons_succ]
          refine wpAnyH_ready (rs := [11]) (by kernel_rfl) (by simp) ?_
          refine AllReadyH.cons rfl (fun K hK => ?_) AllReadyH.nil
          rw [if_pos (by rfl)]
          go_simp
          refine hK.out _ _ (Below.alloc HSa.out HSa.out.size _) (fun hS2 => ?_)
          clear hK K
          try simp only [Act.put, List.setIfInBounds_toArray, List.set_cons_zero, List.set_cons_succ]
          generalize hwb : World.alloc _ _ = wb at hS2 ⊢
          have hal : Below wa.heap.size wa wb := by rw [← hwb]; exact (Below.refl _ _).alloc (Nat.le_refl _) _
          replace HU1 := Lib.hid (own_keep HU1.out hal)
          have K11 : Hid (Blk wb wa.heap.size 70 #[.int .i64 0, .slice none 0 0, .int .i64 0]) := Lib.hid (by rw [← hwb]; exact Blk.new _ _ _)
          have hge11 : w2.heap.size ≤ wa.heap.size := HSa.out.size
          replace HSa := Lib.hid hS2
          generalize wa.heap.size = k11 at *
          clear hS2 hwb hal wa
          rename World => wa
          refine wpAnyH_ready (rs := [12]) (by kernel_rfl) (by simp) ?_
          refine AllReadyH.cons rfl (fun K hK => ?_) AllReadyH.nil
          rw [if_pos (by rfl)]
          refine wp_store_row 70 _ _ rfl k11 #[.int .i64 (l1 : Nat), .slice R1 r1.length rc1, .int .i64 (n : Nat)] rfl rfl 70 _ K11.out (by kernel_rfl) rfl (by simp [Value.oneCell']) ?_
          refine hK.out _ _ (below_row HSa.out hge11 _) (fun hS2 => ?_)
          clear hK K
          change wpAnyH _ _ _ _ _ _ _ (Act.put _ none _) _
          try simp only [Act.put]
          generalize hwb : World.setRow _ _ _ = wb at hS2 ⊢
          have K11b : Hid (Blk wb k11 70 #[.int .i64 (l1 : Nat), .slice R1 r1.length rc1, .int .i64 (n : Nat)]) := Lib.hid (by rw [← hwb]; exact set_row_blk K11.out)
          replace HU1 : Hid (OwnL elI 1 wb w2.heap.size 3 (.slice R1 r1.length rc1) r1) := Lib.hid (own_kt (bad := isT 70) HU1.out (by rw [← hwb]; exact Kt.row K11.out.isT_) (isT_ne (by decide)))
          replace HSa := Lib.hid hS2
          clear hS2 hwb K11 wa
          rename World => wa
          refine takeH (i := 13) (d := some 13) (v := ?_) rfl rfl (by kernel_rfl) (by kernel_rfl) (by kernel_rfl) (fun _ _ _ h => h) (Or.inl ⟨by rfl, ?_⟩) HSa.out ?_
          rotate_left
          · intro wx hSx; clear hSx; first | (go_simp; done) | (go_simp; with_reducible rfl)
          simp only [Act.put, List.setIfInBounds_toArray, List.set_cons_zero, List.set_cons_succ]
          refine wpAnyH_done (by kernel_rfl) ?_ _
          go_wp2_with fail
          go_meet
          exact ⟨R1, rc1, k11, rfl, rfl, K11b.out, HU1.out, hge11, HSa.out⟩
        · skip
          rw [if_pos (by rfl)]
          go_simp
          refine hK.out _ _ (Below.alloc HSa.out HSa.out.size _) (fun hS2 => ?_)
          clear hK K
          try simp only [Act.put, List.setIfInBounds_toArray, List.set_cons_zero, List.set_cons_succ]
          generalize hwb : World.alloc _ _ = wb at hS2 ⊢
          have hal : Below wa.heap.size wa wb := by rw [← hwb]; exact (Below.refl _ _).alloc (Nat.le_refl _) _
          have K11 : Hid (Blk wb wa.heap.size 70 #[.int .i64 0, .slice none 0 0, .int .i64 0]) := Lib.hid (by rw [← hwb]; exact Blk.new _ _ _)
          have hge11 : w2.heap.size ≤ wa.heap.size := HSa.out.size
          replace HSa := Lib.hid hS2
          generalize wa.heap.size = k11 at *
          clear hS2 hwb hal wa
          rename World => wa
          refine wpAnyH_ready (rs := [7]) (by kernel_rfl) (by simp) ?_
          refine AllReadyH.cons rfl (fun K hK => ?_) AllReadyH.nil
          rw [if_pos (by rfl)]
          try go_simp
          refine (step_r m k s l r an v (n : Int) A B R c e rc wa HM.out HC.out.st hak (HR.out.keep HSa.out) (HRR.out.keep HSa.out)).mono ?_
          rintro qq wv ⟨⟨u1, rfl, hu1⟩, hb⟩
          rw [← HNX.out.1] at hu1
          rw [← HNX.out.1, ← HNX.out.2]
          replace hu1 : OwnL elI 1 wv wa.heap.size 3 u1 r1 := hu1
          obtain ⟨R1, rc1, hR1⟩ := own_slice hu1
          subst hR1
          have HU1 := Lib.hid (own_mono hu1 HSa.out.size)
          refine hK.out _ _ (below_seq HSa.out hb) (fun hS2 => ?_)
          clear hK K
          try simp only [Act.put, List.setIfInBounds_toArray, List.set_cons_zero, List.set_cons_succ]
          replace K11 := Lib.hid (K11.out.keep hb)
          replace HSa := Lib.hid hS2
          clear hS2 hb hu1 wa
          rename World => wa
          refine takeH (i := 8) (d := some 31) (v := ?_) rfl rfl (by kernel_rfl) (by kernel_rfl) (by kernel_rfl) (fun _ _ _ h => h) (Or.inl ⟨by rfl, ?_⟩) HSa.out ?_
          rotate_left
          · intro wx hSx; clear hSx; first | (go_simp; done) | (go_simp; with_reducible rfl)
          simp only [Act.put, List.setIfInBounds_toArray, List.set_cons_zero, List.set_cons_succ]
          refine takeH (i := 9) (d := some 40) (v := ?_) rfl rfl (by kernel_rfl) (by kernel_rfl) (by kernel_rfl) (fun _ _ _ h => h) (Or.inl ⟨by rfl, ?_⟩) HSa.out ?_
          rotate_left
          · intro wx hSx; clear hSx; first | (go_simp; done) | (go_simp; with_reducible rfl)
          simp only [Act.put, List.setIfInBounds_toArray, List.set_cons_zero, List.set_cons_succ]
          refine takeH (i := 10) (d := some 41) (v := ?_) rfl rfl (by kernel_rfl) (by kernel_rfl) (by kernel_rfl) (fun _ _ _ h => h) (Or.inl ⟨by rfl, ?_⟩) HSa.out ?_
          rotate_left
          · intro wx hSx; clear hSx; first | (go_simp; done) | (go_simp; with_reducible rfl)
          simp only [Act.put, List.setIfInBounds_toArray, List.set_cons_zero, List.set_cons_succ]
          refine wpAnyH_ready (rs := [12]) (by kernel_rfl) (by simp) ?_
          refine AllReadyH.cons rfl (fun K hK => ?_) AllReadyH.nil
          rw [if_pos (by rfl)]
          refine wp_store_row 70 _ _ rfl k11 #[.int .i64 (l1 : Nat), .slice R1 r1.length rc1, .int .i64 (n : Nat)] rfl rfl 70 _ K11.out (by kernel_rfl) rfl (by simp [Value.oneCell']) ?_
          refine hK.out _ _ (below_row HSa.out hge11 _) (fun hS2 => ?_)
          clear hK K
          change wpAnyH _ _ _ _ _ _ _ (Act.put _ none _) _
          try simp only [Act.put]
          generalize hwb : World.setRow _ _ _ = wb at hS2 ⊢
          have K11b : Hid (Blk wb k11 70 #[.int .i64 (l1 : Nat), .slice R1 r1.length rc1, .int .i64 (n : Nat)]) := Lib.hid (by rw [← hwb]; exact set_row_blk K11.out)
          replace HU1 : Hid (OwnL elI 1 wb w2.heap.size 3 (.slice R1 r1.length rc1) r1) := Lib.hid (own_kt (bad := isT 70) HU1.out (by rw [← hwb]; exact Kt.row K11.out.isT_) (isT_ne (by decide)))
          replace HSa := Lib.hid hS2
          clear hS2 hwb K11 wa
          rename World => wa
          refine takeH (i := 13) (d := some 13) (v := ?_) rfl rfl (by kernel_rfl) (by kernel_rfl) (by kernel_rfl) (fun _ _ _ h => h) (Or.inl ⟨by rfl, ?_⟩) HSa.out ?_
          rotate_left
          · intro wx hSx; clear hSx; first | (go_simp; done) | (go_simp; with_reducible rfl)
          simp only [Act.put, List.setIfInBounds_toArray, List.set_cons_zero, List.set_cons_succ]
          refine wpAnyH_done (by kernel_rfl) ?_ _
          go_wp2_with fail
          go_meet
          exact ⟨R1, rc1, k11, rfl, rfl, K11b.out, HU1.out, hge11, HSa.out⟩
      case rest =>
      obtain ⟨R1, rc1, g11, rfl, rfl, hk11, hu1, hg11, hbx⟩ := hcut
      rename World => wu
      try apply_assumption
      have s2u := keep_cell hbx s2
      have hk2 := hk11.cell 2
      have hf2 := hk11.frozen 2
      have hgne : gr ≠ g11 := by have := RB.out.lt; omega
      have RBu := RB.out.keep hbx
      have hgw : w.heap.size ≤ g11 := Nat.le_trans HBL.out.size hg11
      go_upto_region 9 with fail
      rw [HMXI.out]
      generalize hwb : World.setCell _ _ _ = wb
      have K2 : Hid (Blk wb g11 70 #[.int .i64 (l1 : Nat), .slice R1 r1.length rc1, .int .i64 (vn : Nat)]) := Lib.hid (by rw [← hwb]; exact hk11.set_ _ _)
      have RB2 : Hid (Blk wb gr 70 #[.int .i64 0, .slice none 0 0, .int .i64 0]) := Lib.hid (by rw [← hwb]; exact RBu.far (p := ⟨g11, 2, none⟩) hgne _)
      have HU2 : Hid (OwnL elI 1 wb w2.heap.size 3 (.slice R1 r1.length rc1) r1) := Lib.hid (own_kt (bad := isT 70) hu1 (by rw [← hwb]; exact Kt.set (p := ⟨g11, 2, none⟩) hk11.isT_) (isT_ne (by decide)))
      have HB2 : Hid (Below w.heap.size w wb) := Lib.hid (by rw [← hwb]; exact below_set (below_seq HBL.out hbx) (p := ⟨g11, 2, none⟩) hgw _)
      have HBW2 : Hid (w.heap.size ≤ w2.heap.size) := Lib.hid HBL.out.size
      clear hwb hk11 hu1 hbx s2u hk2 hf2 RBu
      go_wp2_with (first | (refine wpList_load_row rfl 70 _ rfl g11 rfl 70 (#[.int .i64 (l1 : Nat), .slice R1 r1.length rc1, .int .i64 (vn : Nat)]) (0, 0) _ K2.out Try.underlying70 rfl (by kernel_rfl) ?_) | (refine wpList_store_row rfl 70 _ _ rfl gr #[.int .i64 (l1 : Nat), .slice R1 r1.length rc1, .int .i64 (vn : Nat)] rfl rfl 70 _ RB2.out (by kernel_rfl) rfl (by simp [Value.oneCell']) ?_))
      refine ret_c2 (set_row_blk RB2.out) rfl rfl Try.underlying70 rfl (by kernel_rfl) rfl ?_
      have hu3 := own_kt (bad := isT 70) HU2.out (Kt.row (cs := #[.int .i64 (l1 : Nat), .slice R1 r1.length rc1, .int .i64 (vn : Nat)]) RB2.out.isT_) (isT_ne (by decide))
      rw [HFN.out, HFO.out]
      exact ⟨⟨R1, rc1, rfl, (own_rdi hu3 (by have := HRL1.out; omega)).2, fun _ => own_mono hu3 HBW2.out, fun h => absurd h (by rw [HPN.out]; simp)⟩, below_row HB2.out hger _⟩
    have hval : Rg.uVal n jn = jn := if_neg hj
    have hmx : max n jn = n := by omega
    have e0 : ((jn : Int) == 0) = false := beq_eq_false_iff_ne.2 (by omega)
    have e0' : (jn == 0) = false := beq_eq_false_iff_ne.2 hj
    have hjn2 : jn ≤ n := by omega
    clear hj hp'
    obtain ⟨v, hvd⟩ : ∃ v, v = (jn : Int) := ⟨_, rfl⟩
    obtain ⟨vn, hvn⟩ : ∃ vn, vn = n := ⟨_, rfl⟩
    have HPN := Lib.hid (HP.out _ hp)
    obtain ⟨⟨l1, r1⟩, hn1⟩ : ∃ st, st = Rg.nxt m (l, r) an v := ⟨_, rfl⟩
    obtain ⟨ov, hov⟩ : ∃ ov, ov = (Rg.tOf m (l, r) an v).out := ⟨_, rfl⟩
    have hovb : 0 ≤ ov ∧ ov ≤ 1048576 := by rw [hov]; exact ⟨(Rg.tOf_ok HM.out HC.out.st hak _).o0, (Rg.tOf_ok HM.out HC.out.st hak _).o1⟩
    have HFN : Hid (Rg.uN m d (l, r, n) x = (l1, r1, vn)) := Lib.hid (by
      rw [Rg.uN_yes HPN.out]
      dsimp only
      rw [← HAN.out, ← HJN.out, hval, hmx, hvn]
      show ((Rg.nxt m (l, r) an _).1, (Rg.nxt m (l, r) an _).2, _) = _
      rw [hvd] at hn1
      rw [← hn1])
    have HFO : Hid (Rg.uO m d (l, r, n) x = 1 + ov) := Lib.hid (by
      rw [Rg.uO_yes HPN.out]
      dsimp only
      rw [← HAN.out, ← HJN.out, hval]
      show 1 + (Rg.tOf m (l, r) an _).out = _
      rw [hvd] at hov
      rw [← hov])
    have HRL1 : Hid (r1.length ≤ 4) := Lib.hid (by have h1 := (Rg.nxt_ok HM.out HC.out.st hak v).r4 HM.out; rw [← hn1] at h1; exact h1)
    have HNX := Lib.hid (And.intro hn1 hov)
    obtain ⟨ho0, ho1⟩ := hovb
    have HMXI : Hid ((if (n : Int) < v then v else (n : Int)) = (vn : Int)) := Lib.hid (by rw [hvd, hvn]; split <;> omega)
    have HVD := Lib.hid hvd
    have HVD2 : Hid ((jn : Int) = v) := Lib.hid hvd.symm
    clear hn1 hov hp hval hmx hvn hvd
    go_upto_region 7 with (first | (go_at_call 39; refine (HPS.out _).mono ?_; rintro r w' ⟨rfl, rfl⟩))
    rw [HVD2.out]
    clear e0 e0'
    go_cut [12, 13] (fun p o wx => ∃ (R1 : Option Addr) (rc1 g11 : Nat), p = .pointer (some ⟨g11, 0, none⟩) ∧ o = .int .i64 ov ∧ Blk wx g11 70 #[.int .i64 (l1 : Nat), .slice R1 r1.length rc1, .int .i64 (n : Nat)] ∧ OwnL elI 1 wx w2.heap.size 3 (.slice R1 r1.length rc1) r1 ∧ w2.heap.size ≤ g11 ∧ Below w2.heap.size w2 wx)
    case first =>
      refine wp_region_held_drew (S := fun wx => Below w2.heap.size w2 wx) (by kernel_rfl) ((Below.refl _ _).drew) (fun hS => ?_)
      refine takeH (i := 0) (d := some 32) (v := .agg #[.int .i64 m.I, .int .i64 m.S, .slice A m.rg.length c, .slice B m.tr.length e]) rfl rfl (by kernel_rfl) (by kernel_rfl) (by kernel_rfl) (fun _ _ _ h => h) (yieldsIf_load_any (by rfl) 25 _ rfl ⟨w.heap.size, 0, none⟩ rfl [.int .i64 m.I, .int .i64 m.S, .slice A m.rg.length c, .slice B m.tr.length e] _ (fun wx hSx => ((BX.out.keep hSx).blk.part 0 _ rfl)) Try.underlying25 rfl (by kernel_rfl)) hS ?_
      simp only [Act.put, List.setIfInBounds_toArray, List.set_cons_zero, List.set_cons_succ]
      refine takeH (i := 1) (d := some 33) (v := .agg #[.int .i64 (l : Nat), .slice R r.length rc, .int .i64 (n : Nat)]) rfl rfl (by kernel_rfl) (by kernel_rfl) (by kernel_rfl) (fun _ _ _ h => h) (yieldsIf_load_any (by rfl) 70 _ rfl ⟨gs, 0, none⟩ rfl [.int .i64 (l : Nat), .slice R r.length rc, .int .i64 (n : Nat)] _ (fun wx hSx => ((SB.out.keep hSx).part 0 _ rfl)) Try.underlying70 rfl (by kernel_rfl)) hS ?_
      simp only [Act.put, List.setIfInBounds_toArray, List.set_cons_zero, List.set_cons_succ]
      refine takeH (i := 2) (d := some 34) (v := ?_) rfl rfl (by kernel_rfl) (by kernel_rfl) (by kernel_rfl) (fun _ _ _ h => h) (Or.inl ⟨by rfl, ?_⟩) hS ?_
      rotate_left
      · intro wx hSx; clear hSx; first | (go_simp; done) | (go_simp; with_reducible rfl)
      simp only [Act.put, List.setIfInBounds_toArray, List.set_cons_zero, List.set_cons_succ]
      refine takeH (i := 3) (d := some 35) (v := ?_) rfl rfl (by kernel_rfl) (by kernel_rfl) (by kernel_rfl) (fun _ _ _ h => h) (Or.inl ⟨by rfl, ?_⟩) hS ?_
      rotate_left
      · intro wx hSx; clear hSx; first | (go_simp; done) | (go_simp; with_reducible rfl)
      simp only [Act.put, List.setIfInBounds_toArray, List.set_cons_zero, List.set_cons_succ]
      refine takeH (i := 4) (d := some 36) (v := ?_) rfl rfl (by kernel_rfl) (by kernel_rfl) (by kernel_rfl) (fun _ _ _ h => h) (Or.inl ⟨by rfl, ?_⟩) hS ?_
      rotate_left
      · intro wx hSx; clear hSx; first | (go_simp; done) | (go_simp; with_reducible rfl)
      simp only [Act.put, List.setIfInBounds_toArray, List.set_cons_zero, List.set_cons_succ]
      refine takeH (i := 5) (d := some 37) (v := ?_) rfl rfl (by kernel_rfl) (by kernel_rfl) (by kernel_rfl) (fun _ _ _ h => h) (Or.inl ⟨by rfl, ?_⟩) hS ?_
      rotate_left
      · intro wx hSx; clear hSx; first | (go_simp; done) | (go_simp; with_reducible rfl)
      simp only [Act.put, List.setIfInBounds_toArray, List.set_cons_zero, List.set_cons_succ]
      refine takeH (i := 6) (d := some 38) (v := ?_) rfl rfl (by kernel_rfl) (by kernel_rfl) (by kernel_rfl) (fun _ _ _ h => h) (Or.inl ⟨by rfl, ?_⟩) hS ?_
      rotate_left
      · intro wx hSx; clear hSx; first | (go_simp; done) | (go_simp; with_reducible rfl)
      simp only [Act.put, List.setIfInBounds_toArray, List.set_cons_zero, List.set_cons_succ]
      generalize hwa : World.drew _ = wa at hS ⊢
      clear hwa
      have HSa := Lib.hid hS
      clear hS
      refine wpAnyH_ready (rs := [7, 11]) (by kernel_rfl) (by simp) ?_
      refine AllReadyH.cons rfl (fun K hK => ?_) (AllReadyH.cons rfl (fun K hK => ?_) AllReadyH.nil)
      · skip
        rw [if_pos (by rfl)]
        try go_simp
        refine (step_r m k s l r an v (n : Int) A B R c e rc wa HM.out HC.out.st hak (HR.out.keep HSa.out) (HRR.out.keep HSa.out)).mono ?_
        rintro qq wv ⟨⟨u1, rfl, hu1⟩, hb⟩
        rw [← HNX.out.1] at hu1
        rw [← HNX.out.1, ← HNX.out.2]
        replace hu1 : OwnL elI 1 wv wa.heap.size 3 u1 r1 := hu1
        obtain ⟨R1, rc1, hR1⟩ := own_slice hu1
        subst hR1
        have HU1 := Lib.hid (own_mono hu1 HSa.out.size)
        refine hK.out _ _ (below_seq HSa.out hb) (fun hS2 => ?_)
        clear hK K
        try simp only [Act.put, List.setIfInBounds_toArray, List.set_cons_zero, List.set_cons_succ]
        replace HSa := Lib.hid hS2
        clear hS2 hb hu1 wa
        rename World => wa
        refine takeH (i := 8) (d := some 31) (v := ?_) rfl rfl (by kernel_rfl) (by kernel_rfl) (by kernel_rfl) (fun _ _ _ h => h) (Or.inl ⟨by rfl, ?_⟩) HSa.out ?_
        rotate_left
        · intro wx hSx; clear hSx; first | (go_simp; done) | (go_simp; with_reducible rfl)
        simp only [Act.put, List.setIfInBounds_toArray, List.set_cons_zero, List.set_cons_succ]
        refine takeH (i := 9) (d := some 40) (v := ?_) rfl rfl (by kernel_rfl) (by kernel_rfl) (by kernel_rfl) (fun _ _ _ h => h) (Or.inl ⟨by rfl, ?_⟩) HSa.out ?_
        rotate_left
        · intro wx hSx; clear hSx; first | (go_simp; done) | (go_simp; with_reducible rfl)
        simp only [Act.put, List.setIfInBounds_toArray, List.set_cons_zero, List.set_cons_succ]
        refine takeH (i := 10) (d := some 41) (v := ?_) rfl rfl (by kernel_rfl) (by kernel_rfl) (by kernel_rfl) (fun _ _ _ h => h) (Or.inl ⟨by rfl, ?_⟩) HSa.out ?_
        rotate_left
        · intro wx hSx; clear hSx; first | (go_simp; done) | (go_simp; with_reducible rfl)
        simp only [Act.put, List.setIfInBounds_toArray, List.set_cons_zero, List.set_cons_succ]
        refine wpAnyH_ready (rs := [11]) (by kernel_rfl) (by simp) ?_
        refine AllReadyH.cons rfl (fun K hK => ?_) AllReadyH.nil
        rw [if_pos (by rfl)]
        go_simp
        refine hK.out _ _ (Below.alloc HSa.out HSa.out.size _) (fun hS2 => ?_)
        clear hK K
        try simp only [Act.put, List.setIfInBounds_toArray, List.set_cons_zero, List.set_cons_succ]
        generalize hwb : World.alloc _ _ = wb at hS2 ⊢
        have hal : Below wa.heap.size wa wb := by rw [← hwb]; exact (Below.refl _ _).alloc (Nat.le_refl _) _
        replace HU1 := Lib.hid (own_keep HU1.out hal)
        have K11 : Hid (Blk wb wa.heap.size 70 #[.int .i64 0, .slice none 0 0, .int .i64 0]) := Lib.hid (by rw [← hwb]; exact Blk.new _ _ _)
        have hge11 : w2.heap.size ≤ wa.heap.size := HSa.out.size
        replace HSa := Lib.hid hS2
        generalize wa.heap.size = k11 at *
        clear hS2 hwb hal wa
        rename World => wa
        refine wpAnyH_ready (rs := [12]) (by kernel_rfl) (by simp) ?_
        refine AllReadyH.cons rfl (fun K hK => ?_) AllReadyH.nil
        rw [if_pos (by rfl)]
        refine wp_store_row 70 _ _ rfl k11 #[.int .i64 (l1 : Nat), .slice R1 r1.length rc1, .int .i64 (n : Nat)] rfl rfl 70 _ K11.out (by kernel_rfl) rfl (by simp [Value.oneCell']) ?_
        refine hK.out _ _ (below_row HSa.out hge11 _) (fun hS2 => ?_)
        clear hK K
        change wpAnyH _ _ _ _ _ _ _ (Act.put _ none _) _
        try simp only [Act.put]
        generalize hwb : World.setRow _ _ _ = wb at hS2 ⊢
        have K11b : Hid (Blk wb k11 70 #[.int .i64 (l1 : Nat), .slice R1 r1.length rc1, .int .i64 (n : Nat)]) := Lib.hid (by rw [← hwb]; exact set_row_blk K11.out)
        replace HU1 : Hid (OwnL elI 1 wb w2.heap.size 3 (.slice R1 r1.length rc1) r1) := Lib.hid (own_kt (bad := isT 70) HU1.out (by rw [← hwb]; exact Kt.row K11.out.isT_) (isT_ne (by decide)))
        replace HSa := Lib.hid hS2
        clear hS2 hwb K11 wa
        rename World => wa
        refine takeH (i := 13) (d := some 13) (v := ?_) rfl rfl (by kernel_rfl) (by kernel_rfl) (by kernel_rfl) (fun _ _ _ h => h) (Or.inl ⟨by rfl, ?_⟩) HSa.out ?_
        rotate_left
        · intro wx hSx; clear hSx; first | (go_simp; done) | (go_simp; with_reducible rfl)
        simp only [Act.put, List.setIfInBounds_toArray, List.set_cons_zero, List.set_cons_succ]
        refine wpAnyH_done (by kernel_rfl) ?_ _
        go_wp2_with fail
        go_meet
        exact ⟨R1, rc1, k11, rfl, rfl, K11b.out, HU1.out, hge11, HSa.out⟩
      · skip
        rw [if_pos (by rfl)]
        go_simp
        refine hK.out _ _ (Below.alloc HSa.out HSa.out.size _) (fun hS2 => ?_)
        clear hK K
        try simp only [Act.put, List.setIfInBounds_toArray, List.set_cons_zero, List.set_cons_succ]
        generalize hwb : World.alloc _ _ = wb at hS2 ⊢
        have hal : Below wa.heap.size wa wb := by rw [← hwb]; exact (Below.refl _ _).alloc (Nat.le_refl _) _
        have K11 : Hid (Blk wb wa.heap.size 70 #[.int .i64 0, .slice none 0 0, .int .i64 0]) := Lib.hid (by rw [← hwb]; exact Blk.new _ _ _)
        have hge11 : w2.heap.size ≤ wa.heap.size := HSa.out.size
        replace HSa := Lib.hid hS2
        generalize wa.heap.size = k11 at *
        clear hS2 hwb hal wa
        rename World => wa
        refine wpAnyH_ready (rs := [7]) (by kernel_rfl) (by simp) ?_
        refine AllReadyH.cons rfl (fun K hK => ?_) AllReadyH.nil
        rw [if_pos (by rfl)]
        try go_simp
        refine (step_r m k s l r an v (n : Int) A B R c e rc wa HM.out HC.out.st hak (HR.out.keep HSa.out) (HRR.out.keep HSa.out)).mono ?_
        rintro qq wv ⟨⟨u1, rfl, hu1⟩, hb⟩
        rw [← HNX.out.1] at hu1
        rw [← HNX.out.1, ← HNX.out.2]
        replace hu1 : OwnL elI 1 wv wa.heap.size 3 u1 r1 := hu1
        obtain ⟨R1, rc1, hR1⟩ := own_slice hu1
        subst hR1
        have HU1 := Lib.hid (own_mono hu1 HSa.out.size)
        refine hK.out _ _ (below_seq HSa.out hb) (fun hS2 => ?_)
        clear hK K
        try simp only [Act.put, List.setIfInBounds_toArray, List.set_cons_zero, List.set_cons_succ]
        replace K11 := Lib.hid (K11.out.keep hb)
        replace HSa := Lib.hid hS2
        clear hS2 hb hu1 wa
        rename World => wa
        refine takeH (i := 8) (d := some 31) (v := ?_) rfl rfl (by kernel_rfl) (by kernel_rfl) (by kernel_rfl) (fun _ _ _ h => h) (Or.inl ⟨by rfl, ?_⟩) HSa.out ?_
        rotate_left
        · intro wx hSx; clear hSx; first | (go_simp; done) | (go_simp; with_reducible rfl)
        simp only [Act.put, List.setIfInBounds_toArray, List.set_cons_zero, List.set_cons_succ]
        refine takeH (i := 9) (d := some 40) (v := ?_) rfl rfl (by kernel_rfl) (by kernel_rfl) (by kernel_rfl) (fun _ _ _ h => h) (Or.inl ⟨by rfl, ?_⟩) HSa.out ?_
        rotate_left
        · intro wx hSx; clear hSx; first | (go_simp; done) | (go_simp; with_reducible rfl)
        simp only [Act.put, List.setIfInBounds_toArray, List.set_cons_zero, List.set_cons_succ]
        refine takeH (i := 10) (d := some 41) (v := ?_) rfl rfl (by kernel_rfl) (by kernel_rfl) (by kernel_rfl) (fun _ _ _ h => h) (Or.inl ⟨by rfl, ?_⟩) HSa.out ?_
        rotate_left
        · intro wx hSx; clear hSx; first | (go_simp; done) | (go_simp; with_reducible rfl)
        simp only [Act.put, List.setIfInBounds_toArray, List.set_cons_zero, List.set_cons_succ]
        refine wpAnyH_ready (rs := [12]) (by kernel_rfl) (by simp) ?_
        refine AllReadyH.cons rfl (fun K hK => ?_) AllReadyH.nil
        rw [if_pos (by rfl)]
        refine wp_store_row 70 _ _ rfl k11 #[.int .i64 (l1 : Nat), .slice R1 r1.length rc1, .int .i64 (n : Nat)] rfl rfl 70 _ K11.out (by kernel_rfl) rfl (by simp [Value.oneCell']) ?_
        refine hK.out _ _ (below_row HSa.out hge11 _) (fun hS2 => ?_)
        clear hK K
        change wpAnyH _ _ _ _ _ _ _ (Act.put _ none _) _
        try simp only [Act.put]
        generalize hwb : World.setRow _ _ _ = wb at hS2 ⊢
        have K11b : Hid (Blk wb k11 70 #[.int .i64 (l1 : Nat), .slice R1 r1.length rc1, .int .i64 (n : Nat)]) := Lib.hid (by rw [← hwb]; exact set_row_blk K11.out)
        replace HU1 : Hid (OwnL elI 1 wb w2.heap.size 3 (.slice R1 r1.length rc1) r1) := Lib.hid (own_kt (bad := isT 70) HU1.out (by rw [← hwb]; exact Kt.row K11.out.isT_) (isT_ne (by decide)))
        replace HSa := Lib.hid hS2
        clear hS2 hwb K11 wa
        rename World => wa
        refine takeH (i := 13) (d := some 13) (v := ?_) rfl rfl (by kernel_rfl) (by kernel_rfl) (by kernel_rfl) (fun _ _ _ h => h) (Or.inl ⟨by rfl, ?_⟩) HSa.out ?_
        rotate_left
        · intro wx hSx; clear hSx; first | (go_simp; done) | (go_simp; with_reducible rfl)
        simp only [Act.put, List.setIfInBounds_toArray, List.set_cons_zero, List.set_cons_succ]
        refine wpAnyH_done (by kernel_rfl) ?_ _
        go_wp2_with fail
        go_meet
        exact ⟨R1, rc1, k11, rfl, rfl, K11b.out, HU1.out, hge11, HSa.out⟩
    case rest =>
    obtain ⟨R1, rc1, g11, rfl, rfl, hk11, hu1, hg11, hbx⟩ := hcut
    rename World => wu
    try apply_assumption
    have s2u := keep_cell hbx s2
    have hk2 := hk11.cell 2
    have hf2 := hk11.frozen 2
    have hgne : gr ≠ g11 := by have := RB.out.lt; omega
    have RBu := RB.out.keep hbx
    have hgw : w.heap.size ≤ g11 := Nat.le_trans HBL.out.size hg11
    go_upto_region 9 with fail
    rw [HMXI.out]
    generalize hwb : World.setCell _ _ _ = wb
    have K2 : Hid (Blk wb g11 70 #[.int .i64 (l1 : Nat), .slice R1 r1.length rc1, .int .i64 (vn : Nat)]) := Lib.hid (by rw [← hwb]; exact hk11.set_ _ _)
    have RB2 : Hid (Blk wb gr 70 #[.int .i64 0, .slice none 0 0, .int .i64 0]) := Lib.hid (by rw [← hwb]; exact RBu.far (p := ⟨g11, 2, none⟩) hgne _)
    have HU2 : Hid (OwnL elI 1 wb w2.heap.size 3 (.slice R1 r1.length rc1) r1) := Lib.hid (own_kt (bad := isT 70) hu1 (by rw [← hwb]; exact Kt.set (p := ⟨g11, 2, none⟩) hk11.isT_) (isT_ne (by decide)))
    have HB2 : Hid (Below w.heap.size w wb) := Lib.hid (by rw [← hwb]; exact below_set (below_seq HBL.out hbx) (p := ⟨g11, 2, none⟩) hgw _)
    have HBW2 : Hid (w.heap.size ≤ w2.heap.size) := Lib.hid HBL.out.size
    clear hwb hk11 hu1 hbx s2u hk2 hf2 RBu
    go_wp2_with (first | (refine wpList_load_row rfl 70 _ rfl g11 rfl 70 (#[.int .i64 (l1 : Nat), .slice R1 r1.length rc1, .int .i64 (vn : Nat)]) (0, 0) _ K2.out Try.underlying70 rfl (by kernel_rfl) ?_) | (refine wpList_store_row rfl 70 _ _ rfl gr #[.int .i64 (l1 : Nat), .slice R1 r1.length rc1, .int .i64 (vn : Nat)] rfl rfl 70 _ RB2.out (by kernel_rfl) rfl (by simp [Value.oneCell']) ?_))
    refine ret_c2 (set_row_blk RB2.out) rfl rfl Try.underlying70 rfl (by kernel_rfl) rfl ?_
    have hu3 := own_kt (bad := isT 70) HU2.out (Kt.row (cs := #[.int .i64 (l1 : Nat), .slice R1 r1.length rc1, .int .i64 (vn : Nat)]) RB2.out.isT_) (isT_ne (by decide))
    rw [HFN.out, HFO.out]
    exact ⟨⟨R1, rc1, rfl, (own_rdi hu3 (by have := HRL1.out; omega)).2, fun _ => own_mono hu3 HBW2.out, fun h => absurd h (by rw [HPN.out]; simp)⟩, below_row HB2.out hger _⟩
end Go.Proofs.Ytaoebjabdejpoaa
