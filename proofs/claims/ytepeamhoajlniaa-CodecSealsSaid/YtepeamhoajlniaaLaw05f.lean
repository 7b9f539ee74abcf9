/- The walk of CodecSeals. -/
import Derived.Test.YtepeamhoajlniaaLaw05d
namespace Go.Proofs.Ytepeamhoajlniaa
open Go.RowKit

theorem wf8 {a : Int} (w : (Lit.int .u8 a).wf = true) : ∃ n : Nat, a = n ∧ n < 256 := by
  simp only [Lit.wf, Bool.and_eq_true, decide_eq_true_eq, show IntKind.u8.min = 0 from rfl, show IntKind.u8.max = 255 from rfl] at w
  exact ⟨a.toNat, by omega, by omega⟩
theorem xor8 (a b : Nat) (ha : a < 256) (hb : b < 256) : bits .xor .u8 (a : Int) (b : Int) = ((a ^^^ b : Nat) : Int) := by
  have hx : a ^^^ b < 2 ^ 8 := Nat.xor_lt_two_pow (by omega) (by omega)
  have h1 : (BitVec.ofInt 8 (a : Int)).toNat = a := by rw [BitVec.ofInt_natCast, BitVec.toNat_ofNat]; exact Nat.mod_eq_of_lt (by omega)
  have h2 : (BitVec.ofInt 8 (b : Int)).toNat = b := by rw [BitVec.ofInt_natCast, BitVec.toNat_ofNat]; exact Nat.mod_eq_of_lt (by omega)
  show IntKind.u8.wrap ((BitVec.ofInt 8 (a : Int) ^^^ BitVec.ofInt 8 (b : Int)).toNat : Int) = _
  rw [BitVec.toNat_xor, h1, h2, u8w]
  omega
theorem opn_c {A : Option Addr} {c n : Nat} {bs : List Nat} {w : World} (hn : bs.length = n) (h : RdB w A c bs) (hlt : ∀ x ∈ bs, x < 256) (hl : bs.length ≤ 1000000) {o : Cod.Opened} (ho : Cod.opn bs = o) : Calls Try.prog 27 #[.slice A n c] w (OpnR o w) := by
  subst hn ho
  exact open_p A c bs w h hlt hl
theorem opn_e {A : Option Addr} {c n : Nat} {bs : List Nat} {w : World} (hn : bs.length = n) (h : RdB w A c bs) (hlt : ∀ x ∈ bs, x < 256) (hl : bs.length ≤ 1000000) {k : Int} (ho : (Cod.opn bs).err = k) : Calls Try.prog 27 #[.slice A n c] w fun e w' => ∃ a b d, e = .returned (.tuple #[.int .i64 a, b, .int .i64 d, .int .i64 k]) ∧ Below w.heap.size w w' := by
  subst hn ho
  exact (open_p A c bs w h hlt hl).mono fun e w' ⟨_, _, h1, _, h2⟩ => ⟨_, _, _, h1, h2⟩
theorem opn_any {A : Option Addr} {c n : Nat} {bs : List Nat} {w : World} (hn : bs.length = n) (h : RdB w A c bs) (hlt : ∀ x ∈ bs, x < 256) (hl : bs.length ≤ 1000000) : Calls Try.prog 27 #[.slice A n c] w fun e w' => ∃ a b, e = .returned (.tuple #[.int .i64 a, b, .int .i64 ((Cod.opn bs).size : Nat), .int .i64 (Cod.opn bs).err]) ∧ Below w.heap.size w w' := by
  subst hn
  exact (open_p A c bs w h hlt hl).mono fun e w' ⟨_, _, h1, _, h2⟩ => ⟨_, _, h1, h2⟩
theorem sameBytes_br {w : World} {b1 n : Nat} {A B : Option Addr} {c d : Nat} {bs : List Nat} (hb : ∀ x ∈ bs, x < 256) (hn : bs.length = n) (hl : n ≤ 1152921504606846976) (h1 : w.ownsRow b1 5 1 (.slice A n c) n (byv bs)) (h2 : RdB w B d bs) :
    Calls Try.prog 12 #[.slice A n c, .slice B n d] w fun e w' => e = .returned (.bool true) ∧ w = w' := by
  subst hn
  refine (sameBytes_any A B c d bs bs w (own_rdb h1 hl).2 h2 hb hb).mono fun e w' ⟨he, hw⟩ => ⟨?_, hw⟩
  rw [he]; unfold sameBy; simp
theorem own_put {w : World} {base g n cap : Nat} {fr : List Nat} (h : w.ownsRow base 5 1 (.slice (some ⟨g, 0, none⟩) n cap) n (byv fr)) (hg : base ≤ g) (j y : Nat) : (w.setCell ⟨g, j, none⟩ (.int .u8 (y : Int))).ownsRow base 5 1 (.slice (some ⟨g, 0, none⟩) n cap) n (byv (fr.set j y)) ∧ Below base w (w.setCell ⟨g, j, none⟩ (.int .u8 (y : Int))) := by
  refine ⟨?_, (Below.refl _ _).setCell hg _⟩
  have := (h.stored j (.int .u8 (y : Int))).1
  unfold byv at this ⊢
  rwa [List.map_set]
set_option maxRecDepth 100000 in
set_option maxHeartbeats 8000000 in
theorem codecSeals_walk (w : World) (a0 : Int) (A1 : Option Addr) (c1 : Nat) (cs : List Nat) (A2 : Option Addr) (c2 : Nat) (rest : List Nat) (a3 a4 : Int)
    (w0 : (Lit.int .u8 a0).wf = true) (r1 : RdB w A1 c1 cs) (w1 : ∀ x ∈ cs, x < 256) (r2 : RdB w A2 c2 rest) (w2 : ∀ x ∈ rest, x < 256) (w3 : (Lit.int .u16 a3).wf = true) (w4 : (Lit.int .u8 a4).wf = true) :
    Calls Try.prog 7 #[.agg #[.int .u8 a0, .slice A1 cs.length c1, .slice A2 rest.length c2, .int .u16 a3, .int .u8 a4]] w fun e w' => e = .returned (.bool true) ∧ Below w.heap.size w w' := by
  have hm1 := r1.len
  have hm2 := r2.len
  obtain ⟨kd, rfl, hkd⟩ := wf8 w0
  obtain ⟨cut, rfl, hcut⟩ := wf16 w3
  obtain ⟨y, rfl, hy⟩ := wf8 w4
  have hbx0 : Below w.heap.size w (w.alloc (.cells #[.int .u8 kd, .slice A1 cs.length c1, .slice A2 rest.length c2, .int .u16 cut, .int .u8 y] 61)) := (Below.refl _ _).alloc (Nat.le_refl _) _
  by_cases hl1 : (200 : Int) < cs.length
  · clear r1 r2 w0 w1 w2 w3 w4
    go_enter Try.func7, Try.ntmps7
    go_wp2_with fail
    go_quiet (fail)
    have hbx := below_drewN' hbx0 nq
    generalize (w.alloc (.cells #[.int .u8 kd, .slice A1 cs.length c1, .slice A2 rest.length c2, .int .u16 cut, .int .u8 y] 61)).drewN nq = wx at hbx ⊢
    go_wp2_with (go_at_call 9; refine (awake_p _).mono ?_; rintro e w' ⟨rfl, hb⟩)
    go_ret
    exact ⟨rfl, below_seq hbx hb⟩
  by_cases hl2 : (200 : Int) < rest.length
  · clear r1 r2 w0 w1 w2 w3 w4
    go_enter Try.func7, Try.ntmps7
    go_wp2_with fail
    go_quiet (fail)
    have hbx := below_drewN' hbx0 nq
    generalize (w.alloc (.cells #[.int .u8 kd, .slice A1 cs.length c1, .slice A2 rest.length c2, .int .u16 cut, .int .u8 y] 61)).drewN nq = wx at hbx ⊢
    go_wp2_with (go_at_call 9; refine (awake_p _).mono ?_; rintro e w' ⟨rfl, hb⟩)
    go_ret
    exact ⟨rfl, below_seq hbx hb⟩
  have hwk : IntKind.i64.wrap (kd : Int) = (kd : Int) := IntWalk.i64_in _ (by omega)
  have hclamp : Cod.clamp (kd : Int) = kd := by unfold Cod.clamp; omega
  have R1 := Lib.hid r1
  have R2 := Lib.hid r2
  have W1 := Lib.hid w1
  have W2 := Lib.hid w2
  have hfl := Cod.seal_len (kd : Int) cs
  have hpl := Cod.put_le (n := cs.length) ⟨by omega, by omega⟩
  have hp1 := Cod.put_len1 (cs.length : Int)
  have LT := Lib.hid (Cod.seal_lt (kd : Int) cs w1)
  have OS := Cod.opn_seal (kd : Int) cs rest (by omega)
  rw [hclamp] at OS
  have OC := Lib.hid (Cod.opn_cut (kd : Int) cs (by omega))
  have OT := Lib.hid (Cod.opn_set (kd : Int) cs w1)
  have SP := Lib.hid (fun (w' : World) (hb : Below w.heap.size w w') => seal_p (kd : Int) A1 c1 cs w' (R1.out.keep hb) W1.out (by omega) (by omega) (by omega))
  obtain ⟨fr, hfr⟩ : ∃ fr, fr = Cod.frm (kd : Int) cs := ⟨_, rfl⟩
  rw [← hfr] at hfl LT OS OC OT SP
  obtain ⟨nf, hnf⟩ : ∃ nf, fr.length = nf := ⟨_, rfl⟩
  have HNF := Lib.hid hnf
  have SP2 : Hid (∀ w', Below w.heap.size w w' → Calls Try.prog 31 #[.int .i64 kd, .slice A1 cs.length c1] w' fun e w2 => ∃ A c, e = .returned (.slice A nf c) ∧ w2.ownsRow w'.heap.size 5 1 (.slice A nf c) nf (byv fr) ∧ Below w'.heap.size w' w2) := by
    have := SP.out; unfold PutR at this; rw [hnf] at this; exact Lib.hid this
  rw [hnf] at hfl OC OT OS
  have OS2 := Lib.hid OS
  have ja : (fr ++ rest).length = nf + rest.length := by rw [List.length_append, hnf]
  have JA := Lib.hid ja
  have hge : ¬ (nf : Int) < cs.length + 6 := by omega
  have hnf5 : nf ≤ 1000 := by omega
  have hpos : 0 < nf := by omega
  have hmlt := Nat.mod_lt cut hpos
  obtain ⟨i, hi⟩ : ∃ i : Nat, i = cut % nf := ⟨_, rfl⟩
  have hmod : (cut : Int) % (nf : Int) = (i : Int) := by rw [hi, Int.natCast_emod]
  rw [← hi] at hmlt
  have hnf0 : ((nf : Int) == 0) = false := by simp only [beq_eq_false_iff_ne]; omega
  clear hfl hpl hp1 hfr hnf ja OS SP r1 r2 w0 w1 w2 w3 w4 hclamp hi
  go_enter Try.func7, Try.ntmps7
  go_wp2_with fail
  go_quiet (fail)
  have hbx := below_drewN' hbx0 nq
  generalize (w.alloc (.cells #[.int .u8 kd, .slice A1 cs.length c1, .slice A2 rest.length c2, .int .u16 cut, .int .u8 y] 61)).drewN nq = wx at hbx ⊢
  have bel_0 := Lib.hid hbx
  clear hbx hbx0
  go_wp2_with fail
  refine (SP2.out _ bel_0.out).mono ?_
  rintro e w1 ⟨Ba, da, rfl, ho, hb⟩
  have bel_1 := Lib.hid (below_seq bel_0.out hb)
  clear bel_0
  have oa_1 := Lib.hid (ho)
  clear hb
  clear ho
  go_wp2_with fail
  refine (join_c HNF.out rfl (own_rdb oa_1.out (by omega)).2 (R2.out.keep bel_1.out) (by have := HNF.out; omega) (by omega)).mono ?_
  rintro e wj ⟨Bj, dj, rfl, ho, hb⟩
  have bel_2 := Lib.hid (below_seq bel_1.out hb)
  clear bel_1
  have oa_2 := Lib.hid (own_keep oa_1.out hb)
  clear oa_1
  have oj_2 := Lib.hid (ho)
  clear hb
  clear ho
  rw [JA.out] at oj_2 ⊢
  go_wp2_with fail
  refine (opn_c JA.out (own_rdb oj_2.out (by omega)).2 (app_lt LT.out W2.out) (by have := JA.out; omega) OS2.out).mono ?_
  rintro e wo ⟨Bc, dc, rfl, ho, hb⟩
  clear oj_2
  have bel_3 := Lib.hid (below_seq bel_2.out hb)
  clear bel_2
  have oa_3 := Lib.hid (own_keep oa_2.out hb)
  clear oa_2
  have oc_3 := Lib.hid (ho)
  clear hb
  clear ho
  go_wp2_with fail
  refine (sameBytes_br W1.out rfl (by omega) oc_3.out (R1.out.keep bel_3.out)).mono ?_
  rintro e ws ⟨rfl, rfl⟩
  obtain ⟨Bq, dq, hsl, hq⟩ := run_sub_h (P := Try.prog) 22 5 Try.underlying22 (by kernel_rfl) (own_rdb oa_3.out (by omega)).2 i (by have := HNF.out; omega)
  rw [HNF.out] at hsl
  have HQ := Lib.hid hq
  clear hq
  go_wp2_with fail
  refine (opn_e (by have := HNF.out; simp; omega) HQ.out (fun x hx => LT.out x (List.mem_of_mem_take hx)) (by have := HNF.out; simp; omega) (OC.out i hmlt)).mono ?_
  rintro e wc ⟨u1, u2, u3, rfl, hb⟩
  clear oc_3
  have bel_4 := Lib.hid (below_seq bel_3.out hb)
  clear bel_3
  have oa_4 := Lib.hid (own_keep oa_3.out hb)
  clear oa_3
  clear hb
  clear hsl
  by_cases hy0 : y = 0
  · subst hy0
    go_wp2_with fail
    refine (awake_p _).mono ?_
    rintro e wz ⟨rfl, hb⟩
    have bel_5 := Lib.hid (below_seq bel_4.out hb)
    clear bel_4
    have oa_5 := Lib.hid (own_keep oa_4.out hb)
    clear oa_4
    clear hb
    go_wp2_with fail
    go_ret
    exact ⟨rfl, bel_5.out⟩
  · have hyb : ((y : Int) == 0) = false := by simp only [beq_eq_false_iff_ne]; omega
    have hsz0 := bel_4.out.size
    go_wp2_with fail
    refine (join_c HNF.out rfl (own_rdb oa_4.out (by omega)).2 (RdB.nil (A := none) (by omega)) (by have := HNF.out; omega) (by simp)).mono ?_
    rintro e wt ⟨Bt, dt, rfl, ho, hb⟩
    clear oa_4
    have bel_5 := Lib.hid (below_seq bel_4.out hb)
    clear bel_4
    have ot_5 := Lib.hid (own_mono ho hsz0)
    clear hb
    clear ho
    rw [List.append_nil, HNF.out] at ot_5 ⊢
    obtain ⟨g, cp, hv, hgb, hgl⟩ := ot_5.out.form hpos
    injection hv with hv1 _ hv2
    subst hv1 hv2
    have hfi : i < fr.length := by rw [HNF.out]; exact hmlt
    obtain ⟨x, hx⟩ : ∃ x, x = fr.getD i 0 := ⟨_, rfl⟩
    have hgx : fr[i]? = some x := by rw [hx, List.getD_eq_getElem?_getD, List.getElem?_eq_getElem hfi]; rfl
    have hx256 := LT.out x (List.mem_of_getElem? hgx)
    have hcell : wt.cell? ⟨g, i, none⟩ = some (.int .u8 (x : Int)) := by rw [ot_5.out.cellAt i (by omega)]; unfold byv; rw [List.getElem?_map, hgx]; rfl
    have hfz := ot_5.out.frozenAt i
    have HXO := Lib.hid (xor8 x y hx256 hy)
    have hxl := Nat.xor_lt_two_pow (n := 8) (show x < 2 ^ 8 by omega) (show y < 2 ^ 8 by omega)
    obtain ⟨q, hq⟩ : ∃ q, q = x ^^^ y := ⟨_, rfl⟩
    rw [← hq] at HXO hxl
    have hqx : q ≠ x := by rw [hq]; intro e; apply hy0; have := congrArg (x ^^^ ·) e; simpa [← Nat.xor_assoc] using this
    have OTq := Lib.hid (OT.out i q hmlt (by omega) (by rw [← hx]; exact hqx))
    obtain ⟨hos, hbs⟩ := own_put ot_5.out hgb i q
    have OS3 := Lib.hid hos
    have LQ : Hid (∀ z ∈ fr.set i q, z < 256) := Lib.hid (fun z hz => by rcases List.mem_or_eq_of_mem_set hz with h | h; exact LT.out z h; omega)
    have hls : (fr.set i q).length = nf := by rw [List.length_set]; exact HNF.out
    have HLS := Lib.hid hls
    have BEL := Lib.hid (bel_5.out.trans hbs)
    clear hos hbs hls hq hgx hx hqx
    go_wp2_with fail
    rw [HXO.out]
    refine (opn_any HLS.out (own_rdb OS3.out (by omega)).2 LQ.out (by have := HLS.out; omega)).mono ?_
    rintro e wl ⟨u4, u5, rfl, hb⟩
    have BEL2 := Lib.hid (below_seq BEL.out hb)
    clear hb
    obtain ⟨o, ho⟩ : ∃ o, o = Cod.opn (fr.set i q) := ⟨_, rfl⟩
    rw [← ho] at OTq ⊢
    clear ho
    by_cases he : o.err = 0
    · have hs := OTq.out he
      have hb1 : ((o.size : Int) != (nf : Int)) = true := by simp only [bne_iff_ne, ne_eq]; omega
      have hb2 : (o.err != 0) = false := by rw [he]; rfl
      clear he hs
      go_wp2_with fail
      refine (awake_p _).mono ?_
      rintro e wz ⟨rfl, hb⟩
      have BEL3 := Lib.hid (below_seq BEL2.out hb)
      clear hb
      go_wp2_with fail
      go_ret
      exact ⟨rfl, BEL3.out⟩
    · have hb2 : (o.err != 0) = true := by simpa using he
      clear he
      go_wp2_with fail
      refine (awake_p _).mono ?_
      rintro e wz ⟨rfl, hb⟩
      have BEL3 := Lib.hid (below_seq BEL2.out hb)
      clear hb
      go_wp2_with fail
      go_ret
      exact ⟨rfl, BEL3.out⟩
end Go.Proofs.Ytepeamhoajlniaa
