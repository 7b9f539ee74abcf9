/- The code's unfolding of a register automaton. -/
import Derived.Test.YtaoebjabdejpoaaUky
import Derived.Test.YtaoebjabdejpoaaHel
import Derived.Test.YtaoebjabdejpoaaPlc
namespace Go.Proofs.Ytaoebjabdejpoaa
open Go.RowKit

set_option linter.unusedSimpArgs false
/-- what changes in a round of the search: the list of states, the map -/
def qm (o : Obj) : Prop := isT 82 o ∨ isM o
theorem qm_ne {t : TypeId} (h : t ≠ 82) : ∀ cs p, ¬ qm (.cells cs t p) := fun cs p hh => hh.elim (isT_ne h cs p) (isT_notM cs p)
theorem MapK.at2 {α : Type} [DecidableEq α] {kt mt : TypeId} {kv : α → Value} {ok : α → Prop} {off : Nat} {w : World} {b : Nat} {q : List α} {x : α} (h : MapK kt kv ok off w b q) (hx : ok x) (K : KeyKind kt mt kv ok) (hz : (zeroValue 3).run Try.prog w = .ok (.int .i64 0) w) :
    ∃ v t, (Instr.lookup mt (.map (some b)) (kv x) true).run Try.prog w = .ok (.tuple #[.int .i64 v, .bool t]) w ∧ (t = true ↔ x ∈ q) ∧ (x ∈ q → v = ((Rg.idx q x + off : Nat) : Int)) := by
  obtain ⟨v, h1, h2⟩ := h.at_ hx K hz
  exact ⟨v, _, h1, decide_eq_true_iff, h2⟩
/-- the cells of a state, as a list -/
abbrev ucl (c : Rg.Uc) : List Value := (ucs c).toList
theorem ucl_len (c : Rg.Uc) : (ucl c).length = 6 := rfl
theorem ucl_one {c : Rg.Uc} : ∀ u ∈ ucl c, u.oneCell' = true := by
  intro u hu
  have := ucs_one c
  rw [Array.all_eq_true'] at this
  exact this u (by simpa using hu)
theorem infoU : (Try.prog.info? 82).map (fun i => (i.zero, i.size, i.bytes)) = some (some (.agg #[.int .i64 0, .int .i64 0, .int .i64 0, .int .i64 0, .int .i64 0, .int .i64 0]), 6, 48) := by kernel_rfl
/-- what an unfolding hands back -/
def UntP (X : Int × Int × List (List Int) × List (List Int)) (w : World) (r : Ending) (w' : World) : Prop :=
  (∃ A B c d, r = .returned (.tuple #[.agg #[.int .i64 X.2.1, .int .i64 0, .slice A X.2.2.1.length c, .slice B X.2.2.2.length d], .int .i64 X.1]) ∧ RdM .i64 w' A X.2.2.1 ∧ RdM .i64 w' B X.2.2.2) ∧ Below w.heap.size w w'
theorem UntP_err {e : Int} {w w' : World} {r : Ending} (h : r = .returned (.tuple #[.agg #[.int .i64 0, .int .i64 0, .slice none 0 0, .slice none 0 0], .int .i64 e])) (hb : Below w.heap.size w w') : UntP (e, 0, [], []) w r w' :=
  ⟨⟨none, none, 0, 0, h, ⟨Nat.zero_le _, fun h => absurd h (Nat.lt_irrefl 0)⟩, ⟨Nat.zero_le _, fun h => absurd h (Nat.lt_irrefl 0)⟩⟩, hb⟩
theorem short_rows {nx : List (List Int)} {n : Nat} (h : ∀ s, s < nx.length → (nx.getD s []).length = n) (hn : n ≤ 64) : ∀ i, i < nx.length → (nx.getD i []).length ≤ 1152921504606846976 := fun i hi => by have := h i hi; omega
theorem OwnU.one {w : World} {base g : Nat} {c : Rg.Uc} (hb : base ≤ g) (h : Blk w g 82 (ucs c)) : OwnL ucl 6 w base 82 (.slice (some ⟨g, 0, none⟩) 1 1) [c] :=
  ⟨rfl, .inr ⟨g, 1, _, rfl, hb, h, Nat.le_refl _, by unfold maxLen; omega, rfl, rfl⟩⟩
set_option maxRecDepth 100000 in
set_option maxHeartbeats 16000000 in
theorem unfold_p (m : Rg.M) (di : Int) (A B : Option Addr) (c e : Nat) (w : World) (hR : RdA w A B m) :
    Calls Try.prog 24 #[.agg #[.int .i64 m.I, .int .i64 m.S, .slice A m.rg.length c, .slice B m.tr.length e], .int .i64 di] w (UntP (Rg.unfE m di) w) := by
  have HR := Lib.hid hR
  clear hR
  go_enter Try.func24, Try.ntmps24
  go_upto_region 1 with fail
  generalize hwb : World.alloc _ _ = w0
  have BX : Hid (Blk w0 w.heap.size 25 (tc m A c B e)) := Lib.hid (by rw [← hwb]; exact (Blk.new _ _ _).alloc _)
  have Y2 : Hid (Blk w0 (w.heap.size + 1) 52 #[.int .i64 0, .int .i64 0, .slice none 0 0, .slice none 0 0]) := Lib.hid (by rw [← hwb]; have := Blk.new (w.alloc (.cells (tc m A c B e) 25)) 52 #[.int .i64 0, .int .i64 0, .slice none 0 0, .slice none 0 0]; rw [asize] at this; exact this)
  have HBL : Hid (Below w.heap.size w w0) := Lib.hid (by rw [← hwb]; exact ((Below.refl _ _).alloc (Nat.le_refl _) _).alloc (by rw [asize]; omega) _)
  clear hwb
  go_wp2_with (first | (refine wpList_load_row rfl 25 _ rfl w.heap.size rfl 25 (tc m A c B e) (0, 0) _ BX.out Try.underlying25 rfl (by kernel_rfl) ?_))
  refine (valid_p m A B c e w0 (HR.out.keep HBL.out)).mono ?_
  rintro r w1 ⟨rfl, hb⟩
  replace BX := Lib.hid (BX.out.keep hb)
  replace Y2 := Lib.hid (Y2.out.keep hb)
  replace HBL := Lib.hid (below_seq HBL.out hb)
  have hy1 : w.heap.size ≤ w.heap.size + 1 := by omega
  have HY1 : Hid (w.heap.size + 1 < w1.heap.size) := Lib.hid Y2.out.lt
  clear hb w0
  by_cases hv : Rg.validE m = 0
  rotate_left
  · have HV := Lib.hid (Rg.unf_bad (d := di) hv)
    obtain ⟨q, hq⟩ : ∃ q, q = Rg.validE m := ⟨_, rfl⟩
    rw [← hq] at hv HV ⊢
    have hbz : (q != 0) = true := by rw [bne_iff_ne]; exact hv
    clear hv hq
    go_wp2_with (first | (refine wpList_store_row rfl 52 _ _ rfl (w.heap.size + 1) #[.int .i64 0, .int .i64 0, .slice none 0 0, .slice none 0 0] rfl rfl 52 _ Y2.out (by kernel_rfl) rfl (by simp [Value.oneCell']) ?_))
    refine ret_c2 (set_row_blk Y2.out) rfl rfl Try.underlying52 rfl (by kernel_rfl) rfl ?_
    rw [HV.out]
    exact UntP_err rfl (below_row HBL.out hy1 _)
  rw [hv]
  have HVZ0 := Lib.hid hv
  obtain ⟨k, s, hok⟩ := Rg.ok_of hv
  have HM := Lib.hid hok
  have h64 := hok.k64
  have h128 := hok.n128
  have hk1 := hok.k1
  clear hv hok
  have HT := Lib.hid (HR.out.keep HBL.out)
  clear HR
  have BT := Lib.hid (boxT BX.out)
  have c0 := BT.out.c0
  rw [HM.out.I] at c0
  have c1 := BT.out.c1
  rw [HM.out.S] at c1
  have HC0 : Hid (∀ wz, Below w1.heap.size w1 wz → Blk wz w.heap.size 25 (tc m A c B e)) := Lib.hid (fun wz hz => BX.out.keep hz)
  have HY0 : Hid (∀ wz, Below w1.heap.size w1 wz → Blk wz (w.heap.size + 1) 52 #[.int .i64 0, .int .i64 0, .slice none 0 0, .slice none 0 0]) := Lib.hid (fun wz hz => Y2.out.keep hz)
  clear BT
  cases hp : Rg.permB m.I di with
  | false =>
    have HV := Lib.hid (Rg.unf_perm HVZ0.out hp)
    rw [HM.out.I] at hp
    have HPC := Lib.hid (hp ▸ perm_p (k : Int) di)
    clear hp
    go_wp2_with (first | (go_at_call 34; refine (HPC.out _).mono ?_; rintro r w' ⟨rfl, rfl⟩) | (refine wpList_store_row rfl 52 _ _ rfl (w.heap.size + 1) #[.int .i64 0, .int .i64 0, .slice none 0 0, .slice none 0 0] rfl rfl 52 _ Y2.out (by kernel_rfl) rfl (by simp [Value.oneCell']) ?_))
    refine ret_c2 (set_row_blk Y2.out) rfl rfl Try.underlying52 rfl (by kernel_rfl) rfl ?_
    rw [HV.out]
    exact UntP_err rfl (below_row HBL.out hy1 _)
  | true =>
  have HPB := Lib.hid hp
  have hbd := Rg.perm_bd hp
  rw [HM.out.I] at hp hbd
  have HPC := Lib.hid (hp ▸ perm_p (k : Int) di)
  obtain ⟨d, rfl⟩ : ∃ d : Nat, di = d := ⟨di.toNat, by omega⟩
  have hd1 : 1 ≤ d := by omega
  have hd6 : d ≤ 6 := by omega
  obtain ⟨kk, hkk⟩ : ∃ kk : Nat, kk = k * (d + 1) := ⟨_, rfl⟩
  have hki : (k : Int) * ((d : Int) + 1) = (kk : Int) := by rw [hkk]; push_cast; rfl
  have hk64 : kk ≤ 64 := by have := hbd.2.2.2.2; rw [hki] at this; omega
  have hkk1 : 1 ≤ kk := by rw [hkk]; exact Nat.mul_pos hk1 (by omega)
  have hda : 0 ≤ (d : Int) + 1 := by omega
  have HKK := Lib.hid hkk
  have HKI := Lib.hid hki
  clear hp hbd hkk Y2
  go_upto_region 6 with (first | (go_at_call 34; refine (HPC.out _).mono ?_; rintro r w' ⟨rfl, rfl⟩))
  have KZ := Blk.new w1 52 #[.int .i64 0, .int .i64 0, .slice none 0 0, .slice none 0 0]
  go_upto_region 7 with (first | (refine wpList_store_row rfl 52 _ _ rfl w1.heap.size #[.int .i64 (kk : Int), .int .i64 0, .slice none 0 0, .slice none 0 0] rfl rfl 52 _ KZ (by kernel_rfl) rfl (by simp [Value.oneCell']) ?_))
  generalize hwb : World.setRow _ _ _ = wq
  have Y6 : Hid (Blk wq w1.heap.size 52 #[.int .i64 (kk : Int), .int .i64 0, .slice none 0 0, .slice none 0 0]) := Lib.hid (by rw [← hwb]; exact set_row_blk KZ)
  have HB0 : Hid (Below w1.heap.size w1 wq) := Lib.hid (by rw [← hwb]; exact below_row ((Below.refl _ _).alloc (Nat.le_refl _) _) (Nat.le_refl _) _)
  have hp6 : w1.heap.size ≤ w1.heap.size := Nat.le_refl _
  have c1q := keep_cell HB0.out c1
  obtain ⟨p6, hp6e⟩ : ∃ p6, p6 = w1.heap.size := ⟨_, rfl⟩
  rw [← hp6e] at Y6 ⊢
  replace hp6 : w1.heap.size ≤ p6 := by omega
  clear hwb KZ c0 c1 hp6e
  go_upto_region 8 with fail
  clear c1q
  generalize hwb : World.alloc _ _ = wr
  have hal : Below wq.heap.size wq wr := by rw [← hwb]; exact (Below.refl _ _).alloc (Nat.le_refl _) _
  have KU : Hid (Blk wr wq.heap.size 82 (ucs (Rg.uc0 s))) := Lib.hid (by rw [← hwb]; exact Blk.new _ _ _)
  replace Y6 := Lib.hid (Y6.out.keep hal)
  have hgu : w1.heap.size ≤ wq.heap.size := HB0.out.size
  replace HB0 := Lib.hid (below_seq HB0.out hal)
  generalize wq.heap.size = gu at *
  clear hwb hal wq
  have hbs : w1.heap.size ≤ wr.heap.size := HB0.out.size
  have HK2 := Lib.hid (uc_kind (d := d) HM.out hd6)
  obtain ⟨wm, hput, hseen, hgr⟩ := (MapK.made (kt := 82) (kv := fun c => .agg (ucs c)) (ok := Rg.UcOk m d) (off := 0) wr).put (x := Rg.uc0 s) (Rg.uc0_ok HM.out) HK2.out (by simp) (by simp) (by omega)
  replace hput : (Instr.mapUpdate 84 (.map (some wr.heap.size)) (.agg (ucs (Rg.uc0 s))) (.int .i64 0)).run Try.prog (wr.alloc (.map #[] 0)) = .ok () wm := hput
  have KUm := KU.out.alloc (.map #[] 0)
  have HGR := Lib.hid hgr
  have HSEEN : Hid (MapK 82 (fun c => .agg (ucs c)) (Rg.UcOk m d) 0 wm wr.heap.size [Rg.uc0 s]) := Lib.hid hseen
  clear hgr hseen
  have hmm := @run_makeMap Try.prog
  go_upto_region 9 with (first | (refine wpList_load_row rfl 82 _ rfl gu rfl 82 (ucs (Rg.uc0 s)) (0, 0) _ KUm Try.underlying82 rfl (by kernel_rfl) ?_))
  clear hput KUm hmm
  have HBm := Lib.hid (below_grown (HB0.out.alloc hbs (.map #[] 0)) HGR.out hbs (Nat.le_trans hbs (by simp)))
  have KUn : Hid (Blk wm gu 82 (ucs (Rg.uc0 s))) := Lib.hid ((KU.out.alloc (.map #[] 0)).grown HGR.out (fun e => by have := KU.out.lt; injection e with e; omega))
  have Y6m : Hid (Blk wm p6 52 #[.int .i64 (kk : Int), .int .i64 0, .slice none 0 0, .slice none 0 0]) := Lib.hid ((Y6.out.alloc (.map #[] 0)).grown HGR.out (fun e => by have := Y6.out.lt; injection e with e; omega))
  have hbm : w1.heap.size ≤ wr.heap.size := hbs
  generalize wr.heap.size = bm at *
  clear HGR HB0 KU Y6 hbs wr
  have HO0 : Hid (OwnL ucl 6 wm w1.heap.size 82 (.slice (some ⟨gu, 0, none⟩) 1 1) [Rg.uc0 s]) := Lib.hid (OwnU.one hgu KUn.out)
  have HSO := Lib.hid (Rg.srch_ok (d := d) HM.out)
  have HS0 := Lib.hid (Rg.USea.start (s := Rg.srch m k d) (c := Rg.uc0 s) (Rg.uc0_ok HM.out))
  have HT0 : Hid (UTab wm w1.heap.size (.slice none 0 0) (.slice none 0 0) [] []) := Lib.hid (UTab.nil _ _)
  clear KUn
  go_upto_region 10 with fail
  go_loopw [8, 10] (fun v a wr => ∃ (j : Nat) (q : List Rg.Uc) (vn vo : Value) (nx out : List (List Int)), a = .int .i64 j ∧ Hid (MapK 82 (fun c => .agg (ucs c)) (Rg.UcOk m d) 0 wr bm q) ∧ Hid (OwnL ucl 6 wr w1.heap.size 82 v q) ∧ Hid (UTab wr w1.heap.size vn vo nx out) ∧ Hid (Blk wr p6 52 #[.int .i64 (kk : Int), .int .i64 0, vn, vo]) ∧ Hid (Rg.USea (Rg.srch m k d) (Rg.uc0 s) (Rg.sea (Rg.srch m k d) (Rg.uc0 s)) j q nx out) ∧ Hid (Below w1.heap.size w1 wr)) (fun _ a _ => 3000 - (intOf a).toNat)
  case atStart => exact ⟨0, [Rg.uc0 s], _, _, [], [], rfl, HSEEN, HO0, HT0, Y6m, HS0, HBm⟩
  case round =>
    clear HSEEN HO0 HT0 Y6m HS0 HBm
    obtain ⟨j, q, vn, vo, nx, out, rfl, HN, HO, HU, Y6, HS, HB⟩ := hrel
    clear wm
    rename World => wr
    obtain ⟨E, cE, rfl⟩ := own_slice HO.out
    have hql : q.length ≤ 128 := HS.out.q128
    obtain ⟨A1, d1, rfl⟩ := HU.out.n.slice
    obtain ⟨A2, d2, rfl⟩ := HU.out.o.slice
    by_cases hj : j < q.length
    rotate_left
    · have hj' : ¬ (j : Int) < (q.length : Int) := by omega
      have HF : Hid (Rg.unfE m (d : Int) = (0, (k : Int) * ((d : Int) + 1), nx, out)) := Lib.hid (Rg.unf_ok HM.out HPB.out (HS.out.fin hj))
      have HOK : Hid (Mea.Ok kk 0 nx out) := Lib.hid (by rw [HKK.out]; exact HS.out.valid (by show 1 ≤ k * (d + 1); rw [← HKK.out]; exact hkk1) (by show k * (d + 1) ≤ 64; rw [← HKK.out]; exact hk64) hj)
      have Y2 := HY0.out wr HB.out
      have y6 := Y6.out
      have hn128 := HOK.out.n128
      have ho128 : out.length ≤ 128 := by have := HOK.out.o; omega
      go_wp2_with (first | (refine wpList_load_row rfl 52 _ rfl p6 rfl 52 (#[.int .i64 (kk : Int), .int .i64 0, .slice A1 nx.length d1, .slice A2 out.length d2]) (0, 0) _ y6 Try.underlying52 rfl (by kernel_rfl) ?_) | (refine wpList_store_row rfl 52 _ _ rfl (w.heap.size + 1) #[.int .i64 (kk : Int), .int .i64 0, .slice A1 nx.length d1, .slice A2 out.length d2] rfl rfl 52 _ Y2 (by kernel_rfl) rfl (by simp [Value.oneCell']) ?_))
      refine ret_c2 (set_row_blk Y2) rfl rfl Try.underlying52 rfl (by kernel_rfl) rfl ?_
      have hkt : Kt (isT 52) wr (wr.setRow (w.heap.size + 1) #[.int .i64 (kk : Int), .int .i64 0, .slice A1 nx.length d1, .slice A2 out.length d2]) := Kt.row Y2.isT_
      have hu := HU.out.kt hkt (isT_ne (by decide)) (isT_ne (by decide))
      have hB := below_row (cs := #[.int .i64 (kk : Int), .int .i64 0, .slice A1 nx.length d1, .slice A2 out.length d2]) (below_seq HBL.out HB.out) hy1
      rw [HF.out, HKI.out]
      exact ⟨⟨A1, A2, d1, d2, rfl, hu.n.rd (by omega) (short_rows HOK.out.rowN HOK.out.k64), hu.o.rd (by omega) (short_rows (n := kk) (fun s hs => HOK.out.rowO s (by have := HOK.out.o; omega)) HOK.out.k64)⟩, hB⟩
    have hj' : (j : Int) < (q.length : Int) := by omega
    obtain ⟨cc, hcc⟩ : ∃ cc, q[j]? = some cc := ⟨_, List.getElem?_eq_getElem hj⟩
    have HW := Lib.hid (HS.out.begin hcc)
    have HJC := Lib.hid hcc
    have HOK := Lib.hid (HS.out.good.ok cc (List.mem_of_getElem? hcc))
    have hbs : w1.heap.size ≤ wr.heap.size := HB.out.size
    have y0 := Y6.out.cell 0
    clear hcc
    go_upto_region 14 with fail
    clear hj' y0
    have HP0 : Hid (Pr2 wr wr.heap.size (.slice none 0 0) (.slice none 0 0) [] []) := Lib.hid (Pr2.nil _ _)
    have HK0 : Hid (Kt qm wr wr) := Lib.hid (Kt.refl _)
    go_loopw [8, 11, 12, 53] (fun v vns vos i wy => ∃ (x : Nat) (q2 : List Rg.Uc) (ns os : List Int), x ≤ kk ∧ i = .int .i64 x ∧ Hid (MapK 82 (fun c => .agg (ucs c)) (Rg.UcOk m d) 0 wy bm q2) ∧ Hid (OwnL ucl 6 wy w1.heap.size 82 v q2) ∧ Hid (Pr2 wy wr.heap.size vns vos ns os) ∧ Hid (Rg.URow (Rg.srch m k d) cc j (Rg.uRow (Rg.srch m k d) cc (Rg.srch m k d).K 0 q [] []) q x q2 ns os) ∧ Hid (Kt qm wr wy) ∧ Hid (Below w1.heap.size w1 wy)) (fun _ _ _ i _ => 100 - (intOf i).toNat)
    case atStart => exact ⟨0, q, [], [], Nat.zero_le _, rfl, HN, HO, HP0, HW, HK0, HB⟩
    case round =>
      clear HP0 HK0
      obtain ⟨x, q2, ns, os, hxle, rfl, HN, HO, HP, HW, HK, HB⟩ := hrel
      rename World => wy
      have hsz : w1.heap.size ≤ wy.heap.size := HB.out.size
      have hbr : wr.heap.size ≤ wy.heap.size := HK.out.size
      obtain ⟨E2, cE2, rfl⟩ := own_slice HO.out
      have hql2 : q2.length ≤ 128 := HW.out.q128
      have hjl : j < q2.length := (List.getElem?_eq_some_iff.1 HW.out.at_).1
      by_cases hx : x < kk
      rotate_left
      · have hxe : x = (Rg.srch m k d).K := by show x = k * (d + 1); rw [← HKK.out]; omega
        have hx' : ¬ (x : Int) < (kk : Int) := by omega
        obtain ⟨N1, e1, rfl⟩ := own_slice HP.out.n
        obtain ⟨N2, e2, rfl⟩ := own_slice HP.out.o
        have HX : Hid (Rg.USea (Rg.srch m k d) (Rg.uc0 s) (Rg.sea (Rg.srch m k d) (Rg.uc0 s)) (j + 1) q2 (nx ++ [ns]) (out ++ [os])) := Lib.hid (HS.out.next hj HJC.out (hxe ▸ HW.out))
        have hnl : nx.length ≤ 1099511627776 := by have := HS.out.ln; omega
        have hol : out.length ≤ 1099511627776 := by have := HS.out.lo; omega
        replace HU := Lib.hid (HU.out.kt HK.out (qm_ne (by decide)) (qm_ne (by decide)))
        have Y6y : Hid (Blk wy p6 52 #[.int .i64 (kk : Int), .int .i64 0, .slice A1 nx.length d1, .slice A2 out.length d2]) := Lib.hid (blk_kt Y6.out HK.out (qm_ne (by decide)))
        have y2 : wy.cell? ⟨p6, 2, none⟩ = some (.slice A1 nx.length d1) := Y6y.out.cell 2
        clear HW HS HJC HK Y6 hxe hx hbr
        have hal := (Below.refl wy.heap.size wy).alloc (Nat.le_refl _) (.cells #[.slice N1 ns.length e1] 22)
        obtain ⟨v7, w7, hrun7, hn7, hg7, hl7, hb7, hbad7⟩ := own_app (P := Try.prog) 50 50 22 3 Try.underlying50 infoR (by decide) (Blk.new wy 22 #[.slice N1 ns.length e1]) (HU.out.n.keep hal) rfl (own_mono (HP.out.rowN.alloc _) hbs) (hnl) (Nat.le_trans hsz hal.size)
        obtain ⟨nx7, hnx7⟩ : ∃ nx7, nx7 = nx ++ [ns] := ⟨_, rfl⟩
        rw [← hnx7] at hn7 HX
        obtain ⟨A3, d3, rfl⟩ := hn7.slice
        clear hnx7
        have k1 : Kt (isT 22) wy w7 := (Kt.below hal).trans (Kt.grown hg7 hbad7)
        have Y7 := blk_kt Y6y.out k1 (isT_ne (by decide))
        have z2 : w7.cell? ⟨p6, 2, none⟩ = some (.slice A1 nx.length d1) := Y7.cell 2
        have f2 := Y7.frozen 2
        have HK1 := Lib.hid k1
        have HY7 := Lib.hid Y7
        have HU7 := Lib.hid ((HU.out.keep hal).pushN hn7 hg7 hl7)
        have HB7 := Lib.hid ((HB.out.trans (Below.mono hal hsz)).trans hb7)
        clear k1 Y7 hn7 hg7 hl7 hb7 hbad7 hal
        go_upto_region 30 with (at_builtin; refine wpList_app_run rfl (.tmp 101) (.tmp 103) 50 rfl hrun7 ?_)
        generalize hwc : World.setCell _ _ _ = w8
        have k2 : Kt (isT 52) w7 w8 := by rw [← hwc]; exact Kt.set (p := ⟨p6, 2, none⟩) (HY7.out.isT_)
        replace Y6y : Hid (Blk w8 p6 52 #[.int .i64 (kk : Int), .int .i64 0, .slice A3 nx7.length d3, .slice A2 out.length d2]) := Lib.hid (by rw [← hwc]; exact HY7.out.set_ _ _)
        replace HU := Lib.hid (HU7.out.kt k2 (isT_ne (by decide)) (isT_ne (by decide)))
        replace HO := Lib.hid (own_kt (own_kt HO.out HK1.out (isT_ne (by decide))) k2 (isT_ne (by decide)))
        replace HN := Lib.hid ((HN.out.kt_ HK1.out map_notT).kt_ k2 map_notT)
        replace HP := Lib.hid ((HP.out.kt HK1.out (isT_ne (by decide))).kt k2 (isT_ne (by decide)))
        replace HB := Lib.hid (show Below w1.heap.size w1 w8 by rw [← hwc]; exact HB7.out.setCell hp6 _)
        replace hsz : w1.heap.size ≤ w8.heap.size := HB.out.size
        clear hwc k2 hrun7 z2 f2 y2 HK1 HY7 HU7 HB7
        clear w7
        rename World => wz
        have y3 : wz.cell? ⟨p6, 3, none⟩ = some (.slice A2 out.length d2) := Y6y.out.cell 3
        have hal := (Below.refl wz.heap.size wz).alloc (Nat.le_refl _) (.cells #[.slice N2 os.length e2] 22)
        obtain ⟨v7, w7, hrun7, hn7, hg7, hl7, hb7, hbad7⟩ := own_app (P := Try.prog) 50 50 22 3 Try.underlying50 infoR (by decide) (Blk.new wz 22 #[.slice N2 os.length e2]) (HU.out.o.keep hal) rfl (own_mono (HP.out.rowO.alloc _) hbs) (hol) (Nat.le_trans hsz hal.size)
        obtain ⟨out7, hout7⟩ : ∃ out7, out7 = out ++ [os] := ⟨_, rfl⟩
        rw [← hout7] at hn7 HX
        obtain ⟨A4, d4, rfl⟩ := hn7.slice
        clear hout7
        have k1 : Kt (isT 22) wz w7 := (Kt.below hal).trans (Kt.grown hg7 hbad7)
        have Y7 := blk_kt Y6y.out k1 (isT_ne (by decide))
        have z3 : w7.cell? ⟨p6, 3, none⟩ = some (.slice A2 out.length d2) := Y7.cell 3
        have f3 := Y7.frozen 3
        have HK1 := Lib.hid k1
        have HY7 := Lib.hid Y7
        have HU7 := Lib.hid ((HU.out.keep hal).pushO hn7 hg7 hl7)
        have HB7 := Lib.hid ((HB.out.trans (Below.mono hal hsz)).trans hb7)
        clear k1 Y7 hn7 hg7 hl7 hb7 hbad7 hal
        go_upto_region 11 with (at_builtin; refine wpList_app_run rfl (.tmp 107) (.tmp 109) 50 rfl hrun7 ?_)
        generalize hwc : World.setCell _ _ _ = w8
        have k2 : Kt (isT 52) w7 w8 := by rw [← hwc]; exact Kt.set (p := ⟨p6, 3, none⟩) (HY7.out.isT_)
        replace Y6y : Hid (Blk w8 p6 52 #[.int .i64 (kk : Int), .int .i64 0, .slice A3 nx7.length d3, .slice A4 out7.length d4]) := Lib.hid (by rw [← hwc]; exact HY7.out.set_ _ _)
        replace HU := Lib.hid (HU7.out.kt k2 (isT_ne (by decide)) (isT_ne (by decide)))
        replace HO := Lib.hid (own_kt (own_kt HO.out HK1.out (isT_ne (by decide))) k2 (isT_ne (by decide)))
        replace HN := Lib.hid ((HN.out.kt_ HK1.out map_notT).kt_ k2 map_notT)
        replace HB := Lib.hid (show Below w1.heap.size w1 w8 by rw [← hwc]; exact HB7.out.setCell hp6 _)
        clear hwc k2 hrun7 z3 f3 y3 HK1 HY7 HU7 HB7
        go_wp2_with fail
        go_roundw
        case rel => exact ⟨j + 1, q2, _, _, nx7, out7, by go_num, HN, HO, HU, Y6y, HX, HB⟩
        case measure => simp [intOf] <;> omega
      have hx' : (x : Int) < (kk : Int) := by omega
      have hxk : x < k * (d + 1) := by rw [← HKK.out]; exact hx
      obtain ⟨ad, rfl, hcell⟩ := (OwnL.rd ucl_len HO.out (by omega)).2.at_ HW.out.at_
      have HCL := Lib.hid (RdL.whole (w := wy) (ad := ad) (i := j) (x := cc) (el := ucl) (size := 6) hcell)
      have HXK := Lib.hid hxk
      clear hcell hxk
      go_upto_region 16 with fail
      clear hx'
      go_cut [14, 15] (fun p o wx => ∃ k6, p = .pointer (some ⟨k6, 0, none⟩) ∧ o = .int .i64 (Rg.uO m d cc x) ∧ Blk wx k6 82 (ucs (Rg.uN m d cc x)) ∧ Below wy.heap.size wy wx)
      case first =>
        refine wp_region_held_drew (S := fun wx => Below wy.heap.size wy wx) (by kernel_rfl) ((Below.refl _ _).drew) (fun hS => ?_)
        refine takeH (i := 0) (d := some 57) (v := .agg #[.int .i64 m.I, .int .i64 m.S, .slice A m.rg.length c, .slice B m.tr.length e]) rfl rfl (by kernel_rfl) (by kernel_rfl) (by kernel_rfl) (fun _ _ _ h => h) (yieldsIf_load_any (by rfl) 25 _ rfl ⟨w.heap.size, 0, none⟩ rfl [.int .i64 m.I, .int .i64 m.S, .slice A m.rg.length c, .slice B m.tr.length e] _ (fun wx hSx => ((HC0.out wx (HB.out.trans (Below.mono hSx hsz))).part 0 _ rfl)) Try.underlying25 rfl (by kernel_rfl)) hS ?_
        simp only [Act.put, List.setIfInBounds_toArray, List.set_cons_zero, List.set_cons_succ]
        refine takeH (i := 1) (d := some 58) (v := ?_) rfl rfl (by kernel_rfl) (by kernel_rfl) (by kernel_rfl) (fun _ _ _ h => h) (Or.inl ⟨by rfl, ?_⟩) hS ?_
        rotate_left
        · intro wx hSx; clear hSx; first | (go_simp; done) | (go_simp; with_reducible rfl)
        simp only [Act.put, List.setIfInBounds_toArray, List.set_cons_zero, List.set_cons_succ]
        refine takeH (i := 2) (d := some 59) (v := ?_) rfl rfl (by kernel_rfl) (by kernel_rfl) (by kernel_rfl) (fun _ _ _ h => h) (Or.inl ⟨by rfl, ?_⟩) hS ?_
        rotate_left
        · intro wx hSx; clear hSx; first | (go_simp; done) | (go_simp; with_reducible rfl)
        simp only [Act.put, List.setIfInBounds_toArray, List.set_cons_zero, List.set_cons_succ]
        refine takeH (i := 3) (d := some 60) (v := ?_) rfl rfl (by kernel_rfl) (by kernel_rfl) (by kernel_rfl) (fun _ _ _ h => h) (Or.inl ⟨by rfl, ?_⟩) hS ?_
        rotate_left
        · intro wx hSx; clear hSx; first | (go_simp; done) | (go_simp; with_reducible rfl)
        simp only [Act.put, List.setIfInBounds_toArray, List.set_cons_zero, List.set_cons_succ]
        refine takeH (i := 4) (d := some 61) (v := ?_) rfl rfl (by kernel_rfl) (by kernel_rfl) (by kernel_rfl) (fun _ _ _ h => h) (Or.inl ⟨by rfl, ?_⟩) hS ?_
        rotate_left
        · intro wx hSx; clear hSx; first | (go_simp; done) | (go_simp; with_reducible rfl)
        simp only [Act.put, List.setIfInBounds_toArray, List.set_cons_zero, List.set_cons_succ]
        refine takeH (i := 5) (d := some 62) (v := .agg (ucs cc)) rfl rfl (by kernel_rfl) (by kernel_rfl) (by kernel_rfl) (fun _ _ _ h => h) (yieldsIf_load_any (by rfl) 82 _ rfl (ad.add (j * 6)) rfl (ucs cc).toList _ (fun wx hSx => (fun jj u hu => keep_cell hSx (HCL.out jj u hu))) Try.underlying82 rfl (by kernel_rfl)) hS ?_
        simp only [Act.put, List.setIfInBounds_toArray, List.set_cons_zero, List.set_cons_succ]
        refine takeH (i := 6) (d := some 63) (v := ?_) rfl rfl (by kernel_rfl) (by kernel_rfl) (by kernel_rfl) (fun _ _ _ h => h) (Or.inl ⟨by rfl, ?_⟩) hS ?_
        rotate_left
        · intro wx hSx; clear hSx; first | (go_simp; done) | (go_simp; with_reducible rfl)
        simp only [Act.put, List.setIfInBounds_toArray, List.set_cons_zero, List.set_cons_succ]
        generalize hwa : World.drew _ = wa at hS ⊢
        clear hwa
        have HSa := Lib.hid hS
        clear hS
        refine wpAnyH_ready (rs := [7, 11]) (by kernel_rfl) (by simp) ?_
        refine AllReadyH.cons rfl (fun K hK => ?_) (AllReadyH.cons rfl (fun K hK => ?_) AllReadyH.nil)
        · skip
          rw [if_pos (by rfl)]
          try go_simp
          refine (ustep_p m k s d x cc A B c e wa HM.out hd1 hd6 HOK.out HXK.out (by omega) (HT.out.keep (below_seq HB.out HSa.out))).mono ?_
          rintro r wv ⟨rfl, hb⟩
          refine hK.out _ _ (below_seq HSa.out hb) (fun hS2 => ?_)
          clear hK K
          try simp only [Act.put, List.setIfInBounds_toArray, List.set_cons_zero, List.set_cons_succ]
          replace HSa := Lib.hid hS2
          clear hS2 hb wa
          rename World => wa
          refine takeH (i := 8) (d := some 56) (v := ?_) rfl rfl (by kernel_rfl) (by kernel_rfl) (by kernel_rfl) (fun _ _ _ h => h) (Or.inl ⟨by rfl, ?_⟩) HSa.out ?_
          rotate_left
          · intro wx hSx; clear hSx; first | (go_simp; done) | (go_simp; with_reducible rfl)
          simp only [Act.put, List.setIfInBounds_toArray, List.set_cons_zero, List.set_cons_succ]
          refine takeH (i := 9) (d := some 65) (v := ?_) rfl rfl (by kernel_rfl) (by kernel_rfl) (by kernel_rfl) (fun _ _ _ h => h) (Or.inl ⟨by rfl, ?_⟩) HSa.out ?_
          rotate_left
          · intro wx hSx; clear hSx; first | (go_simp; done) | (go_simp; with_reducible rfl)
          simp only [Act.put, List.setIfInBounds_toArray, List.set_cons_zero, List.set_cons_succ]
          refine takeH (i := 10) (d := some 66) (v := ?_) rfl rfl (by kernel_rfl) (by kernel_rfl) (by kernel_rfl) (fun _ _ _ h => h) (Or.inl ⟨by rfl, ?_⟩) HSa.out ?_
          rotate_left
          · intro wx hSx; clear hSx; first | (go_simp; done) | (go_simp; with_reducible rfl)
          simp only [Act.put, List.setIfInBounds_toArray, List.set_cons_zero, List.set_cons_succ]
          refine wpAnyH_ready (rs := [11]) (by kernel_rfl) (by simp) ?_
          refine AllReadyH.cons rfl (fun K hK => ?_) AllReadyH.nil
          rw [if_pos (by rfl)]
          go_simp
          refine hK.out _ _ (Below.alloc HSa.out HSa.out.size _) (fun hS2 => ?_)
          clear hK K
          try simp only [Act.put, List.setIfInBounds_toArray, List.set_cons_zero, List.set_cons_succ]
          generalize hwb : World.alloc _ _ = wb at hS2 ⊢
          have K6 : Hid (Blk wb wa.heap.size 82 #[.int .i64 0, .int .i64 0, .int .i64 0, .int .i64 0, .int .i64 0, .int .i64 0]) := Lib.hid (by rw [← hwb]; exact Blk.new _ _ _)
          have hgeK6 : wy.heap.size ≤ wa.heap.size := HSa.out.size
          replace HSa := Lib.hid hS2
          generalize wa.heap.size = kK6 at *
          clear hS2 hwb
          rename World => wa
          refine wpAnyH_ready (rs := [12]) (by kernel_rfl) (by simp) ?_
          refine AllReadyH.cons rfl (fun K hK => ?_) AllReadyH.nil
          rw [if_pos (by rfl)]
          refine wp_store_row 82 _ _ rfl kK6 (ucs (Rg.uN m d cc x)) rfl rfl 82 _ K6.out (by kernel_rfl) rfl (ucs_one _) ?_
          refine hK.out _ _ (below_row HSa.out hgeK6 _) (fun hS2 => ?_)
          clear hK K
          change wpAnyH _ _ _ _ _ _ _ (Act.put _ none _) _
          try simp only [Act.put]
          generalize hwb : World.setRow _ _ _ = wb at hS2 ⊢
          replace K6 := Lib.hid (show Blk wb _ _ (ucs (Rg.uN m d cc x)) by rw [← hwb]; exact set_row_blk K6.out)
          replace HSa := Lib.hid hS2
          clear hS2 hwb wa
          rename World => wa
          refine takeH (i := 13) (d := some 15) (v := ?_) rfl rfl (by kernel_rfl) (by kernel_rfl) (by kernel_rfl) (fun _ _ _ h => h) (Or.inl ⟨by rfl, ?_⟩) HSa.out ?_
          rotate_left
          · intro wx hSx; clear hSx; first | (go_simp; done) | (go_simp; with_reducible rfl)
          simp only [Act.put, List.setIfInBounds_toArray, List.set_cons_zero, List.set_cons_succ]
          refine wpAnyH_done (by kernel_rfl) ?_ _
          go_wp2_with fail
          go_meet
          exact ⟨kK6, rfl, rfl, K6.out, HSa.out⟩
        · skip
          rw [if_pos (by rfl)]
          go_simp
          refine hK.out _ _ (Below.alloc HSa.out HSa.out.size _) (fun hS2 => ?_)
          clear hK K
          try simp only [Act.put, List.setIfInBounds_toArray, List.set_cons_zero, List.set_cons_succ]
          generalize hwb : World.alloc _ _ = wb at hS2 ⊢
          have K6 : Hid (Blk wb wa.heap.size 82 #[.int .i64 0, .int .i64 0, .int .i64 0, .int .i64 0, .int .i64 0, .int .i64 0]) := Lib.hid (by rw [← hwb]; exact Blk.new _ _ _)
          have hgeK6 : wy.heap.size ≤ wa.heap.size := HSa.out.size
          replace HSa := Lib.hid hS2
          generalize wa.heap.size = kK6 at *
          clear hS2 hwb
          rename World => wa
          refine wpAnyH_ready (rs := [7]) (by kernel_rfl) (by simp) ?_
          refine AllReadyH.cons rfl (fun K hK => ?_) AllReadyH.nil
          rw [if_pos (by rfl)]
          try go_simp
          refine (ustep_p m k s d x cc A B c e wa HM.out hd1 hd6 HOK.out HXK.out (by omega) (HT.out.keep (below_seq HB.out HSa.out))).mono ?_
          rintro r wv ⟨rfl, hb⟩
          refine hK.out _ _ (below_seq HSa.out hb) (fun hS2 => ?_)
          clear hK K
          try simp only [Act.put, List.setIfInBounds_toArray, List.set_cons_zero, List.set_cons_succ]
          replace K6 := Lib.hid (K6.out.keep hb)
          replace HSa := Lib.hid hS2
          clear hS2 hb wa
          rename World => wa
          refine takeH (i := 8) (d := some 56) (v := ?_) rfl rfl (by kernel_rfl) (by kernel_rfl) (by kernel_rfl) (fun _ _ _ h => h) (Or.inl ⟨by rfl, ?_⟩) HSa.out ?_
          rotate_left
          · intro wx hSx; clear hSx; first | (go_simp; done) | (go_simp; with_reducible rfl)
          simp only [Act.put, List.setIfInBounds_toArray, List.set_cons_zero, List.set_cons_succ]
          refine takeH (i := 9) (d := some 65) (v := ?_) rfl rfl (by kernel_rfl) (by kernel_rfl) (by kernel_rfl) (fun _ _ _ h => h) (Or.inl ⟨by rfl, ?_⟩) HSa.out ?_
          rotate_left
          · intro wx hSx; clear hSx; first | (go_simp; done) | (go_simp; with_reducible rfl)
          simp only [Act.put, List.setIfInBounds_toArray, List.set_cons_zero, List.set_cons_succ]
          refine takeH (i := 10) (d := some 66) (v := ?_) rfl rfl (by kernel_rfl) (by kernel_rfl) (by kernel_rfl) (fun _ _ _ h => h) (Or.inl ⟨by rfl, ?_⟩) HSa.out ?_
          rotate_left
          · intro wx hSx; clear hSx; first | (go_simp; done) | (go_simp; with_reducible rfl)
          simp only [Act.put, List.setIfInBounds_toArray, List.set_cons_zero, List.set_cons_succ]
          refine wpAnyH_ready (rs := [12]) (by kernel_rfl) (by simp) ?_
          refine AllReadyH.cons rfl (fun K hK => ?_) AllReadyH.nil
          rw [if_pos (by rfl)]
          refine wp_store_row 82 _ _ rfl kK6 (ucs (Rg.uN m d cc x)) rfl rfl 82 _ K6.out (by kernel_rfl) rfl (ucs_one _) ?_
          refine hK.out _ _ (below_row HSa.out hgeK6 _) (fun hS2 => ?_)
          clear hK K
          change wpAnyH _ _ _ _ _ _ _ (Act.put _ none _) _
          try simp only [Act.put]
          generalize hwb : World.setRow _ _ _ = wb at hS2 ⊢
          replace K6 := Lib.hid (show Blk wb _ _ (ucs (Rg.uN m d cc x)) by rw [← hwb]; exact set_row_blk K6.out)
          replace HSa := Lib.hid hS2
          clear hS2 hwb wa
          rename World => wa
          refine takeH (i := 13) (d := some 15) (v := ?_) rfl rfl (by kernel_rfl) (by kernel_rfl) (by kernel_rfl) (fun _ _ _ h => h) (Or.inl ⟨by rfl, ?_⟩) HSa.out ?_
          rotate_left
          · intro wx hSx; clear hSx; first | (go_simp; done) | (go_simp; with_reducible rfl)
          simp only [Act.put, List.setIfInBounds_toArray, List.set_cons_zero, List.set_cons_succ]
          refine wpAnyH_done (by kernel_rfl) ?_ _
          go_wp2_with fail
          go_meet
          exact ⟨kK6, rfl, rfl, K6.out, HSa.out⟩
      case rest =>
      obtain ⟨k6, rfl, rfl, hk6, hbx⟩ := hcut
      rename World => wu
      try apply_assumption
      replace HO := Lib.hid (own_keep HO.out hbx)
      replace HN := Lib.hid (HN.out.keep hbx)
      replace HP := Lib.hid (HP.out.keep hbx)
      replace HK := Lib.hid (HK.out.trans (Kt.below hbx))
      replace HB := Lib.hid (below_seq HB.out hbx)
      replace hsz : w1.heap.size ≤ wu.heap.size := HB.out.size
      replace hbr : wr.heap.size ≤ wu.heap.size := HK.out.size
      have K6 := Lib.hid hk6
      have hq6 : ns.length ≤ 1099511627776 := by have := HW.out.ln; omega
      have ho6 : os.length ≤ 1099511627776 := by have := HW.out.ln; have := HW.out.row.len; omega
      clear hk6 hbx HCL wy
      obtain ⟨cn, hcn⟩ : ∃ cn, cn = Rg.uN m d cc x := ⟨_, rfl⟩
      obtain ⟨uo, huo⟩ : ∃ uo, uo = Rg.uO m d cc x := ⟨_, rfl⟩
      rw [← hcn] at K6
      rw [← huo]
      have HOA : Hid (Rg.UcOk m d cn) := Lib.hid (by rw [hcn]; exact Rg.uN_ok HM.out HOK.out HXK.out)
      have HNX : Hid ((Rg.srch m k d).nx cc x = cn) := Lib.hid hcn.symm
      have HOX : Hid ((Rg.srch m k d).o cc x = uo) := Lib.hid huo.symm
      have huo0 : 0 ≤ uo := by rw [huo]; exact HSO.out.o cc x HOK.out HXK.out
      clear hcn huo
      by_cases hlim : 1048576 < uo
      · have hlim' : (1048576 : Int) < uo := hlim
        have hr1 := HW.out.lim HXK.out (by rw [HOX.out]; exact hlim)
        clear hlim
        have HE := Lib.hid (Rg.unf_err HM.out HPB.out (by decide) (HS.out.err hj HJC.out (by decide) hr1))
        have Y2 := HY0.out wu HB.out
        clear hr1
        go_wp2_with (first | (refine wpList_load_row rfl 82 _ rfl k6 rfl 82 (ucs cn) (0, 0) _ K6.out Try.underlying82 rfl (by kernel_rfl) ?_) | (refine wpList_store_row rfl 52 _ _ rfl (w.heap.size + 1) #[.int .i64 0, .int .i64 0, .slice none 0 0, .slice none 0 0] rfl rfl 52 _ Y2 (by kernel_rfl) rfl (by simp [Value.oneCell']) ?_))
        refine ret_c2 (set_row_blk Y2) rfl rfl Try.underlying52 rfl (by kernel_rfl) rfl ?_
        rw [HE.out]
        exact UntP_err rfl (below_row (below_seq HBL.out HB.out) hy1 _)
      have HLM : Hid (¬ 1048576 < (Rg.srch m k d).o cc x) := Lib.hid (by rw [HOX.out]; exact hlim)
      have hlim' : ¬ (1048576 : Int) < uo := hlim
      go_upto_region 19 with fail
      clear hlim hlim'
      have hz : (zeroValue 3).run Try.prog wu = .ok (.int .i64 0) wu := by rfl
      obtain ⟨v0, b0, hlook, hb0, hv0⟩ := HN.out.at2 HOA.out HK2.out hz
      replace hlook : (Instr.lookup 84 (.map (some bm)) (.agg (ucs cn)) true).run Try.prog wu = _ := hlook
      clear hz
      by_cases hin : cn ∈ q2
      · have hI := HW.out.old HSO.out HOK.out HXK.out HLM.out (by rw [HNX.out]; exact hin)
        rw [HNX.out, HOX.out] at hI
        obtain ⟨ix, hix⟩ : ∃ ix, ix = Rg.idx q2 cn := ⟨_, rfl⟩
        have hv1 : v0 = (ix : Int) := by rw [hv0 hin, hix, Nat.add_zero]
        subst hv1
        rw [← hix] at hI
        have HI := Lib.hid hI
        obtain rfl : b0 = true := hb0.2 hin
        clear hix hin hv0 HLM hI hb0
        go_upto_region 26 with (first | (refine wpList_load_row rfl 82 _ rfl k6 rfl 82 (ucs cn) (0, 0) _ K6.out Try.underlying82 rfl (by kernel_rfl) ?_))
        clear hlook
        go_upto_region 28 with (first | (at_builtin; refine appL elI_len (by decide) rfl (.tmp 95) (.tmp 97) 22 3 _ _ rfl Try.underlying22 infoI rfl (by decide) (y := uo) rfl rfl rfl rfl HP2.out.o elI_one ho6 hbs5 ?_; intro v6 w6 ho6' hg6 hl6 hbb6 _) | (at_builtin; refine appL elI_len (by decide) rfl (.tmp 91) (.tmp 93) 22 3 _ _ rfl Try.underlying22 infoI rfl (by decide) (y := (ix : Int)) rfl rfl rfl rfl HP.out.n elI_one hq6 hbr ?_; intro v5 w5 ho5 hg5 hl5 hbb5 hbs5; have HP2 := Lib.hid (HP.out.pushN ho5 hg5 hl5)))
        have hk1 := app_kt HP.out.n hg5
        have hk2 := app_kt HP2.out.o hg6
        have HP3 := Lib.hid (HP2.out.pushO ho6' hg6 hl6)
        replace HO := Lib.hid (own_kt (own_kt HO.out hk1 (isT_ne (by decide))) hk2 (isT_ne (by decide)))
        replace HN := Lib.hid ((HN.out.kt_ hk1 map_notT).kt_ hk2 map_notT)
        replace HK := Lib.hid ((HK.out.far (hbb5 wr.heap.size _ (Nat.le_refl _) (Below.refl _ _))).far (hbb6 wr.heap.size _ (Nat.le_refl _) (Below.refl _ _)))
        replace HB := Lib.hid (hbb6 w1.heap.size w1 hbs (hbb5 w1.heap.size w1 hbs HB.out))
        clear hk1 hk2 ho5 hg5 hl5 hbb5 ho6' hg6 hl6 hbb6 HP2 HP
        go_wp2_with fail
        go_roundw
        case rel => exact ⟨x + 1, q2, _, _, by omega, by go_num, HN, HO, HP3, HI, HK, HB⟩
        case measure => simp [intOf] <;> omega
      obtain rfl : b0 = false := by
        cases b0 with
        | false => rfl
        | true => exact absurd (hb0.1 rfl) hin
      clear hv0 hb0
      by_cases hfull : 128 ≤ q2.length
      · have hr1 := HW.out.full HXK.out HLM.out (by rw [HNX.out]; exact hin) hfull
        have hge : ((q2.length : Int) == 128) = true := by rw [beq_iff_eq]; omega
        have hge' : (q2.length == 128) = true := by rw [beq_iff_eq]; omega
        clear hin hfull
        have HE := Lib.hid (Rg.unf_err HM.out HPB.out (by decide) (HS.out.err hj HJC.out (by decide) hr1))
        have Y2 := HY0.out wu HB.out
        clear hr1
        go_wp2_with (first | (refine wpList_load_row rfl 82 _ rfl k6 rfl 82 (ucs cn) (0, 0) _ K6.out Try.underlying82 rfl (by kernel_rfl) ?_) | (refine wpList_store_row rfl 52 _ _ rfl (w.heap.size + 1) #[.int .i64 0, .int .i64 0, .slice none 0 0, .slice none 0 0] rfl rfl 52 _ Y2 (by kernel_rfl) rfl (by simp [Value.oneCell']) ?_))
        refine ret_c2 (set_row_blk Y2) rfl rfl Try.underlying52 rfl (by kernel_rfl) rfl ?_
        rw [HE.out]
        exact UntP_err rfl (below_row (below_seq HBL.out HB.out) hy1 _)
      have hI := HW.out.new HSO.out HOK.out HXK.out HLM.out (by rw [HNX.out]; exact hin) hfull
      rw [HNX.out, HOX.out] at hI
      have HI := Lib.hid hI
      have HNI := Lib.hid hin
      have hge : ((q2.length : Int) == 128) = false := beq_eq_false_iff_ne.2 (by omega)
      have hge' : (q2.length == 128) = false := beq_eq_false_iff_ne.2 (by omega)
      clear hin HLM hI
      go_upto_region 24 with (first | (refine wpList_load_row rfl 82 _ rfl k6 rfl 82 (ucs cn) (0, 0) _ K6.out Try.underlying82 rfl (by kernel_rfl) ?_))
      clear hlook hge hge'
      obtain ⟨wm, hput, hseen, hgr⟩ := HN.out.put HOA.out HK2.out HNI.out (by omega) (by omega)
      replace hput : (Instr.mapUpdate 84 (.map (some bm)) (.agg (ucs cn)) (.int .i64 (q2.length : Nat))).run Try.prog wu = .ok () wm := hput
      have HGR := Lib.hid hgr
      have HSEEN : Hid (MapK 82 (fun c => .agg (ucs c)) (Rg.UcOk m d) 0 wm bm (q2 ++ [cn])) := Lib.hid hseen
      have K6' := K6.out
      clear hgr hseen
      go_upto_region 25 with (first | (refine wpList_load_row rfl 82 _ rfl k6 rfl 82 (ucs cn) (0, 0) _ K6' Try.underlying82 rfl (by kernel_rfl) ?_))
      clear hput K6'
      have hk1 : Kt isM wu wm := Kt.grown HGR.out HN.out.isM_
      replace HO := Lib.hid (own_kt HO.out hk1 isT_notM)
      replace HP := Lib.hid (HP.out.kt hk1 isT_notM)
      replace HK := Lib.hid (HK.out.trans (hk1.weak fun o h => .inr h))
      replace K6 := Lib.hid (blk_kt K6.out hk1 isT_notM)
      replace HB := Lib.hid (below_grown HB.out HGR.out hbm hsz)
      replace HN := HSEEN
      replace hsz : w1.heap.size ≤ wm.heap.size := HB.out.size
      replace hbr : wr.heap.size ≤ wm.heap.size := HK.out.size
      clear HGR HSEEN hk1 hfull
      have hq7 : q2.length ≤ 1099511627776 := by omega
      have K7 := K6.out
      go_upto_region 26 with (first | (refine wpList_load_row rfl 82 _ rfl k6 rfl 82 (#[.int .i64 (cn.1 : Nat), .int .i64 (cn.2.1.getD 0 0), .int .i64 (cn.2.1.getD 1 0), .int .i64 (cn.2.1.getD 2 0), .int .i64 (cn.2.1.getD 3 0), .int .i64 (cn.2.2 : Nat)]) (0, 0) _ K7 Try.underlying82 rfl (by kernel_rfl) ?_) | (at_builtin; refine appL ucl_len (by decide) rfl (.tmp 87) (.tmp 89) 83 82 _ _ rfl Try.underlying83 infoU rfl (by decide) (y := cn) rfl rfl rfl rfl HO.out ucl_one hq7 hsz ?_; intro v7 w7 ho7 hg7 _ hbb7 _))
      have hk1 := app_kt HO.out hg7
      replace HN := Lib.hid (HN.out.kt_ hk1 map_notT)
      replace HP := Lib.hid (HP.out.kt hk1 (isT_ne (by decide)))
      replace HK := Lib.hid (HK.out.trans (hk1.weak fun o h => .inl h))
      replace HB := Lib.hid (hbb7 w1.heap.size w1 (Nat.le_refl _) HB.out)
      replace HO : Hid (OwnL ucl 6 w7 w1.heap.size 82 v7 (q2 ++ [cn])) := Lib.hid ho7
      replace hbr : wr.heap.size ≤ w7.heap.size := HK.out.size
      clear hk1 ho7 hg7 hbb7 K6 K7 hsz hq7
      generalize hq9 : q2.length = p9 at *
      go_upto_region 28 with (first | (at_builtin; refine appL elI_len (by decide) rfl (.tmp 95) (.tmp 97) 22 3 _ _ rfl Try.underlying22 infoI rfl (by decide) (y := uo) rfl rfl rfl rfl HP2.out.o elI_one ho6 hbs5 ?_; intro v6 w6 ho6' hg6 hl6 hbb6 _) | (at_builtin; refine appL elI_len (by decide) rfl (.tmp 91) (.tmp 93) 22 3 _ _ rfl Try.underlying22 infoI rfl (by decide) (y := (p9 : Int)) rfl rfl rfl rfl HP.out.n elI_one hq6 hbr ?_; intro v5 w5 ho5 hg5 hl5 hbb5 hbs5; have HP2 := Lib.hid (HP.out.pushN ho5 hg5 hl5)))
      have hk1 := app_kt HP.out.n hg5
      have hk2 := app_kt HP2.out.o hg6
      have HP3 := Lib.hid (HP2.out.pushO ho6' hg6 hl6)
      replace HO := Lib.hid (own_kt (own_kt HO.out hk1 (isT_ne (by decide))) hk2 (isT_ne (by decide)))
      replace HN := Lib.hid ((HN.out.kt_ hk1 map_notT).kt_ hk2 map_notT)
      replace HK := Lib.hid ((HK.out.far (hbb5 wr.heap.size _ (Nat.le_refl _) (Below.refl _ _))).far (hbb6 wr.heap.size _ (Nat.le_refl _) (Below.refl _ _)))
      replace HB := Lib.hid (hbb6 w1.heap.size w1 hbs (hbb5 w1.heap.size w1 hbs HB.out))
      clear hk1 hk2 ho5 hg5 hl5 hbb5 ho6' hg6 hl6 hbb6 HP2 HP
      go_wp2_with fail
      go_roundw
      case rel => exact ⟨x + 1, q2 ++ [cn], _, _, by omega, by go_num, HN, HO, HP3, HI, HK, HB⟩
      case measure => simp [intOf] <;> omega
end Go.Proofs.Ytaoebjabdejpoaa
