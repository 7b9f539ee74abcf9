/- The code's machine that runs: a transition is taken. -/
import Derived.Test.YtpcoddbkcelaoaaFst
import Derived.Test.YtpcoddbkcelaoaaQue
namespace Go.Proofs.Ytpcoddbkcelaoaa
open Go.RowKit

/-- the cells of an event -/
def evC (x : Tm.Ev) : List Value := [.int .i64 x.1, .int .i64 x.2.1, .int .i64 x.2.2]
theorem evC_len (x : Tm.Ev) : (evC x).length = 3 := rfl
theorem evC_one (x : Tm.Ev) : ∀ u ∈ evC x, u.oneCell' = true := by
  intro u hu
  simp [evC] at hu
  rcases hu with rfl | rfl | rfl <;> rfl
abbrev OwnE (w : World) (base : Nat) (v : Value) (q : List Tm.Ev) : Prop := OwnL evC 3 w base 53 v q
theorem infoE : (Try.prog.info? 53).map (fun i => (i.zero, i.size, i.bytes)) = some (some (.agg #[.int .i64 0, .int .i64 0, .int .i64 0]), 3, 24) := by kernel_rfl
set_option maxHeartbeats 1000000 in
theorem joined_p (v : Value) (q : List Tm.Ev) (y : Tm.Ev) (base k : Nat) (W : World) (hk : k = W.heap.size) (hown : OwnE W base v q) (hq : q.length ≤ 20000) (hbase : base ≤ W.heap.size) :
    Calls Try.prog 43 #[v, .slice (some ⟨k, 0, none⟩) 1 1] (W.alloc (.cells #[.int .i64 y.1, .int .i64 y.2.1, .int .i64 y.2.2] 53)) fun r w' => ∃ v', r = .returned v' ∧ OwnE w' base v' (q ++ [y]) ∧ (W.alloc (.cells #[.int .i64 y.1, .int .i64 y.2.1, .int .i64 y.2.2] 53)).grownBy w' v.ownBlock ∧ (v'.ownBlock = v.ownBlock ∨ v'.ownBlock = some (W.heap.size + 1)) := by
  obtain ⟨A, c, rfl⟩ := own_slice hown
  go_enter Try.func43, Try.ntmps43
  go_wp2_with (at_builtin; refine appL evC_len (by decide) rfl (.tmp 5) (.tmp 6) 38 53 _ _ rfl Try.underlying38 infoE rfl (by decide) (y := y) rfl rfl rfl hk hown (evC_one y) (by omega) hbase ?_; intro v' w' h1 h2 h3 _ _)
  go_ret
  exact ⟨v', rfl, h1, h2, h3⟩
/-- what a machine that runs writes: its own block, the events' row, new blocks -/
structure Mv (w w' : World) (g : Nat) (row : Option Nat) : Prop where
  os : w'.os = w.os
  tape : w'.tape = w.tape
  output : w'.output = w.output
  size : w.heap.size ≤ w'.heap.size
  block : ∀ b, b < w.heap.size → b ≠ g → some b ≠ row → w'.heap[b]? = w.heap[b]?
theorem Mv.refl (w : World) (g : Nat) (row : Option Nat) : Mv w w g row := ⟨rfl, rfl, rfl, Nat.le_refl _, fun _ _ _ _ => rfl⟩
theorem Mv.of_below {w w' : World} (h : Below w.heap.size w w') (g : Nat) (row : Option Nat) : Mv w w' g row := ⟨h.os, h.tape, h.output, h.size, fun b hb _ _ => h.block b hb⟩
theorem Mv.trans {w w1 w2 : World} {g : Nat} {row row1 : Option Nat} (h : Mv w w1 g row) (k : Mv w1 w2 g row1) (hr : row1 = row ∨ ∃ b, row1 = some b ∧ w.heap.size ≤ b) : Mv w w2 g row :=
  ⟨k.os.trans h.os, k.tape.trans h.tape, k.output.trans h.output, Nat.le_trans h.size k.size, fun b hb h1 h2 => (k.block b (Nat.lt_of_lt_of_le hb h.size) h1 (fun e => by
    rcases hr with hr | ⟨b', hr, hb'⟩
    · exact h2 (by rw [e, hr])
    · rw [hr] at e
      injection e with e
      omega)).trans (h.block b hb h1 h2)⟩
theorem Mv.set {w w' : World} {g : Nat} {row : Option Nat} (h : Mv w w' g row) (o : Nat) (u : Value) : Mv w (w'.setCell ⟨g, o, none⟩ u) g row :=
  ⟨h.os, h.tape, h.output, by simpa using h.size, fun b hb h1 h2 => (Below.heap_setCell w' ⟨g, o, none⟩ u b h1).trans (h.block b hb h1 h2)⟩
theorem Mv.below {w w' : World} {g B : Nat} {row : Option Nat} {w0 : World} (h : Mv w w' g row) (hb : Below B w0 w) (hB : B ≤ w.heap.size) (hg : B ≤ g) (hr : ∀ b, row = some b → B ≤ b) : Below B w0 w' :=
  hb.trans ⟨h.os, h.tape, h.output, h.size, fun b hlt => h.block b (by omega) (by omega) (fun e => by have := hr b e.symm; omega)⟩
theorem Mv.blk {w w' : World} {g : Nat} {row : Option Nat} (h : Mv w w' g row) {b : Nat} {t : TypeId} {cs : Array Value} (hb : Blk w b t cs) (h1 : b ≠ g) (h2 : some b ≠ row) : Blk w' b t cs := (h.block b hb.lt h1 h2).trans hb
theorem own_ne_blk {w : World} {base g t : Nat} {v : Value} {q : List Tm.Ev} {cs : Array Value} (h : OwnE w base v q) (hg : Blk w g t cs) (hne : 53 ≠ t) : some g ≠ v.ownBlock := fun e => own_blk_ne h hg hne e.symm
theorem own_set {w : World} {base g o t : Nat} {v : Value} {q : List Tm.Ev} {cs : Array Value} (h : OwnE w base v q) (hg : Blk w g t cs) (hne : 53 ≠ t) (u : Value) : OwnE (w.setCell ⟨g, o, none⟩ u) base v q := by
  refine ⟨h.1, ?_⟩
  rcases h.2 with h0 | ⟨b, cap, cur, hv, hb, hh, hr⟩
  · exact .inl h0
  · refine .inr ⟨b, cap, cur, hv, hb, ?_, hr⟩
    rw [Below.heap_setCell w ⟨g, o, none⟩ u b (fun e => own_blk_ne h hg hne (by rw [hv, e]; rfl))]; exact hh
section
variable {w : World} {g : Nat} {m : Tm.M} {A B C : Option Addr} {c d e : Nat} {cf : Tm.Cfg} {du : Nat → Int} {v0 : Value}
theorem Rn.evs (h : Rn w g m A c B d C e cf du v0) (v : Value) : Rn (w.setCell ⟨g, 15, none⟩ v) g m A c B d C e cf du v := (Blk.set_ h 15 v).fit rfl
theorem Rn.cfg (h : Rn w g m A c B d C e cf du v0) (c2 : Tm.Cfg) : Rn (w.setCells g 6 [.int .i64 (c2.1 : Nat), .bool (c2.2.getD 0 false), .bool (c2.2.getD 1 false), .bool (c2.2.getD 2 false), .bool (c2.2.getD 3 false)]) g m A c B d C e c2 du v0 := by
  simp only [World.setCells]
  exact (((((Blk.set_ h 6 _).set_ 7 _).set_ 8 _).set_ 9 _).set_ 10 _).fit rfl
theorem Rn.set_due (h : Rn w g m A c B d C e cf du v0) {n : Nat} (hn : n < 4) (v : Int) : Rn (w.setCell ⟨g, 11 + n, none⟩ (.int .i64 v)) g m A c B d C e cf (Tm.upd du n v) v0 := by
  refine (Blk.set_ h (11 + n) _).fit ?_
  rcases n with _ | _ | _ | _ | n
  · rfl
  · rfl
  · rfl
  · rfl
  · omega
end
theorem Mv.drew {w w' : World} {g : Nat} {row : Option Nat} (h : Mv w w' g row) : Mv w w'.drew g row := ⟨h.os, h.tape, h.output, h.size, h.block⟩
theorem Mv.sets {w w' : World} {g : Nat} {row : Option Nat} (h : Mv w w' g row) (vs : List Value) : ∀ o, Mv w (w'.setCells g o vs) g row := by
  induction vs generalizing w' with
  | nil => intro o; exact h
  | cons v vs ih => intro o; simp only [World.setCells]; exact ih (h.set o v) (o + 1)
theorem own_sets {base g t : Nat} {v : Value} {q : List Tm.Ev} (hne : 53 ≠ t) (vs : List Value) : ∀ (o : Nat) (w : World) (cs : Array Value), OwnE w base v q → Blk w g t cs → OwnE (w.setCells g o vs) base v q := by
  induction vs with
  | nil => intro o w cs h _; exact h
  | cons u vs ih => intro o w cs h hg; simp only [World.setCells]; exact ih (o + 1) _ _ (own_set h hg hne u) (hg.set_ o u)
theorem below_sets {B g : Nat} {w w' : World} (hg : B ≤ g) (vs : List Value) : ∀ o, Below B w w' → Below B w (w'.setCells g o vs) := by
  induction vs generalizing w' with
  | nil => intro o h; exact h
  | cons v vs ih => intro o h; simp only [World.setCells]; exact ih (o + 1) (h.setCell hg v)
theorem blk_sets {b g t : Nat} {w : World} {cs : Array Value} (hne : b ≠ g) (vs : List Value) : ∀ o, Blk w b t cs → Blk (w.setCells g o vs) b t cs := by
  induction vs generalizing w with
  | nil => intro o h; exact h
  | cons v vs ih => intro o h; simp only [World.setCells]; exact ih (o + 1) (h.far hne v)
theorem upd_neg {f : Nat → Int} {a v : Int} (h : a < 0) : Tm.upd f a v = f := by
  funext x; unfold Tm.upd; rw [if_neg (by omega)]
section
variable {P : Program} {o : Oper} {a : Act} {w : World} {K : Act → World → Prop} {Q : Exit → Act → World → Prop}
theorem wp_load_any (ty : TypeId) (x : Operand) (ho : o.op = .load ty x) (ad : Addr) (hx : a.eval x = .pointer (some ad)) (cs : List Value) (d : TypeDesc) (hc : ∀ j v, cs[j]? = some v → w.cell? (ad.add j) = some v)
    (hu : P.underlying ty = some d) (hd : d.isRow = true) (hi : (P.info? ty).map (·.size) = some cs.length) (h : K (a.put o.dst (.agg cs.toArray)) w) : o.wp P a w K Q := by
  unfold Oper.wp execOp
  simp only [ho, hx, Instr.loadAt, Instr.sureAddr, Sem.run_bind, Sem.run_pure, Result.andThen_ok, run_load_any w ad ty cs d hc hu hd hi]
  exact h
end
/-- what 'take' does to a machine that runs -/
def TakeP (w : World) (g base : Nat) (m : Tm.M) (A : Option Addr) (c : Nat) (B : Option Addr) (d : Nat) (C : Option Addr) (e : Nat) (cf : Tm.Cfg) (du : Nat → Int) (v : Value) (q : List Tm.Ev) (r : Ending) (w' : World) : Prop :=
  r = .returned (.tuple #[]) ∧ ∃ v', Rn w' g m A c B d C e cf du v' ∧ OwnE w' base v' q ∧ Mv w w' g v.ownBlock ∧ (v'.ownBlock = v.ownBlock ∨ ∃ b, v'.ownBlock = some b ∧ w.heap.size ≤ b)
set_option maxRecDepth 100000 in
set_option maxHeartbeats 8000000 in
theorem take_p (m : Tm.M) (k T S : Nat) (A B C : Option Addr) (c d e : Nat) (cf : Tm.Cfg) (du : Nat → Int) (v : Value) (q : List Tm.Ev) (now : Int) (i g base : Nat) (w0 w : World) (hm : Tm.Ok m k T S) (hc : Tm.CfgOk m.nx.length T cf) (hi : i < k + T) (hp : Tm.poss k cf i = true)
    (hR : RdT w0 A B C m) (hb0 : Below w0.heap.size w0 w) (hg0 : w0.heap.size ≤ g) (hbg : w0.heap.size ≤ base) (hbw : base ≤ w.heap.size) (h : Rn w g m A c B d C e cf du v) (hown : OwnE w base v q) (hq : q.length ≤ 10001) (n0 : 0 ≤ now) (n1 : now ≤ Tm.top) :
    Calls Try.prog 32 #[.pointer (some ⟨g, 0, none⟩), .int .i64 now, .int .i64 i] w (TakeP w g base m A c B d C e (Tm.aftC m k cf i) (Tm.upd du (Tm.setA m cf.1 i).1 (now + (Tm.setA m cf.1 i).2)) v (q ++ [Tm.evt m cf i now])) := by
  have HM := Lib.hid hm
  have HC := Lib.hid hc
  have HPo := Lib.hid hp
  have HN := Lib.hid (And.intro n0 n1)
  have HR := Lib.hid hR
  have HB0 := Lib.hid hb0
  have H := Lib.hid h
  have HO := Lib.hid hown
  have h4 := hm.t4
  have h64 := hm.k64
  have h128 := hm.n128
  unfold Tm.top at n1
  have hrow : ∀ b, v.ownBlock = some b → w0.heap.size ≤ b := fun b hb => Nat.le_trans hbg (hown.lt b hb).1
  have HROW := Lib.hid hrow
  have hs := hc.1
  clear hm hp hR hb0 h hown hrow
  obtain ⟨bd, B1, d1, os, rfl, hox, co, ro⟩ := HR.out.out.at_ (i := cf.1) (by rw [HM.out.o]; exact hs)
  obtain ⟨gd, C1, e1, ss, rfl, hsx, cs, rs⟩ := HR.out.set.at_ (i := cf.1) (by rw [HM.out.e]; exact hs)
  have hol : i < os.length := by rw [← hox, HM.out.rowO _ hs]; exact hi
  have hsl : i < ss.length := by rw [← hsx, HM.out.rowS _ hs]; exact hi
  obtain ⟨bd1, o, rfl, hot, cot⟩ := ro.at_ hol
  obtain ⟨gd1, a, b, rfl, hab, ca, cb⟩ := rs.at_ hsl
  have hset : Tm.setA m cf.1 i = (a, b) := by unfold Tm.setA; rw [hsx, hab]
  have hout : Tm.evt m cf i now = (now, (i : Int), o) := by unfold Tm.evt Tm.outA; rw [hox, hot]
  have hcell := HM.out.cell cf.1 i hs hi
  rw [hsx, hab] at hcell
  rw [hset, hout]
  have ha1 := hcell.a1
  have hb0' := hcell.b0
  have hb1 := hcell.b1
  have mo := HR.out.out.1
  have mse := HR.out.set.1
  have mos := ro.1
  have ms := rs.1
  have hselo : (cf.1 : Int) < (m.out.length : Int) := by rw [HM.out.o]; omega
  have hsel : (cf.1 : Int) < (m.set.length : Int) := by rw [HM.out.e]; omega
  have HCS := Lib.hid (And.intro co cot)
  replace cs := keep_cell HB0.out cs
  replace ca := keep_cell HB0.out ca
  replace cb := keep_cell HB0.out cb
  clear hox hot hsx hab hset hout hcell rs ro co cot hc
  have hgl := H.out.lt
  have c6 := H.out.c6
  have c5 := H.out.c5
  go_enter Try.func32, Try.ntmps32
  go_upto_region 2 with (refine wpList_load_any rfl 104 _ rfl (gd1.add (i * 2)) rfl [.int .i64 a, .int .i64 b] _ (cells2' ca cb) Try.underlying104 rfl (by kernel_rfl) ?_)
  clear c5 c6 cs ca cb
  generalize hwc : World.alloc _ _ = wc
  have hbc : Below w.heap.size w wc := hwc ▸ (Below.refl _ _).alloc (Nat.le_refl _) _
  have G7 : Hid (Blk wc w.heap.size 104 #[.int .i64 a, .int .i64 b]) := Lib.hid (by rw [← hwc]; exact Blk.new _ _ _)
  have R1 : Hid (Rn wc g m A c (some bd) d (some gd) e cf du v) := Lib.hid (Blk.keep H.out hbc)
  have O1 : Hid (OwnE wc base v q) := Lib.hid (own_keep HO.out hbc)
  have HMV : Hid (Mv w wc g v.ownBlock) := Lib.hid (Mv.of_below hbc _ _)
  have h7g : w.heap.size ≠ g := Nat.ne_of_gt hgl
  have h7r : some w.heap.size ≠ v.ownBlock := fun e => Nat.lt_irrefl _ (HO.out.lt _ e.symm).2
  have hszw : w.heap.size < wc.heap.size := G7.out.lt
  have HBC : Hid (Below w0.heap.size w0 wc) := Lib.hid (below_seq HB0.out hbc)
  clear hwc hbc HB0 H HO
  have c4 := R1.out.c4
  have hbz : base ≤ wc.heap.size := by omega
  go_cut [] (fun wx => ∃ v', Rn wx g m A c (some bd) d (some gd) e cf du v' ∧ OwnE wx base v' (q ++ [(now, (i : Int), o)]) ∧ Blk wx w.heap.size 104 #[.int .i64 a, .int .i64 b] ∧ Mv w wx g v.ownBlock ∧ Below w0.heap.size w0 wx ∧ (v'.ownBlock = v.ownBlock ∨ ∃ b, v'.ownBlock = some b ∧ w.heap.size ≤ b))
  case first =>
    refine wp_region_held_drew (S := fun wx => wx.cell? ⟨g, 4, none⟩ = some (.slice (some bd) m.out.length d) ∧ Below w0.heap.size w0 wx) (by kernel_rfl) (⟨c4, HBC.out.drew⟩) (fun hS => ?_)
    refine takeH (i := 0) (d := some 24) (v := ?_) rfl rfl (by kernel_rfl) (by kernel_rfl) (by kernel_rfl) (fun _ _ _ h => h) (Or.inl ⟨by rfl, ?_⟩) hS ?_
    rotate_left
    · intro wx hSx; clear hSx; first | (go_simp; done) | (go_simp; with_reducible rfl)
    simp only [Act.put, List.setIfInBounds_toArray, List.set_cons_zero, List.set_cons_succ]
    refine takeH (i := 1) (d := some 25) (v := ?_) rfl rfl (by kernel_rfl) (by kernel_rfl) (by kernel_rfl) (fun _ _ _ h => h) (Or.inl ⟨by rfl, ?_⟩) hS ?_
    rotate_left
    · intro wx hSx; clear hSx; first | (go_simp; done) | (go_simp; with_reducible rfl)
    simp only [Act.put, List.setIfInBounds_toArray, List.set_cons_zero, List.set_cons_succ]
    refine takeH (i := 2) (d := some 26) (v := ?_) rfl rfl (by kernel_rfl) (by kernel_rfl) (by kernel_rfl) (fun _ _ _ h => h) (Or.inl ⟨by rfl, ?_⟩) hS ?_
    rotate_left
    · intro wx hSx; clear hSx; first | (go_simp; done) | (go_simp; with_reducible rfl)
    simp only [Act.put, List.setIfInBounds_toArray, List.set_cons_zero, List.set_cons_succ]
    refine takeH (i := 3) (d := some 27) (v := ?_) rfl rfl (by kernel_rfl) (by kernel_rfl) (by kernel_rfl) (fun _ _ _ h => h) (Or.inl ⟨by rfl, ?_⟩) hS ?_
    rotate_left
    · intro wx hSx; clear hSx; first | (go_simp; done) | (go_simp; with_reducible rfl)
    simp only [Act.put, List.setIfInBounds_toArray, List.set_cons_zero, List.set_cons_succ]
    refine takeH (i := 5) (d := some 29) (v := ?_) rfl rfl (by kernel_rfl) (by kernel_rfl) (by kernel_rfl) (fun _ _ _ h => h) (Or.inl ⟨by rfl, ?_⟩) hS ?_
    rotate_left
    · intro wx hSx; clear hSx; first | (go_simp; done) | (go_simp; with_reducible rfl)
    simp only [Act.put, List.setIfInBounds_toArray, List.set_cons_zero, List.set_cons_succ]
    refine takeH (i := 6) (d := some 30) (v := ?_) rfl rfl (by kernel_rfl) (by kernel_rfl) (by kernel_rfl) (fun _ _ _ h => h) (Or.inl ⟨by rfl, ?_⟩) hS ?_
    rotate_left
    · intro wx hSx; clear hSx; first | (go_simp; done) | (go_simp; with_reducible rfl)
    simp only [Act.put, List.setIfInBounds_toArray, List.set_cons_zero, List.set_cons_succ]
    refine takeH (i := 7) (d := some 31) (v := ?_) rfl rfl (by kernel_rfl) (by kernel_rfl) (by kernel_rfl) (fun _ _ _ h => h) (Or.inl ⟨by rfl, ?_⟩) hS ?_
    rotate_left
    · intro wx hSx; clear hSx; first | (go_simp; done) | (go_simp; with_reducible rfl)
    simp only [Act.put, List.setIfInBounds_toArray, List.set_cons_zero, List.set_cons_succ]
    refine takeH (i := 8) (d := some 32) (v := ?_) rfl rfl (by kernel_rfl) (by kernel_rfl) (by kernel_rfl) (fun _ _ _ h => h) (Or.inl ⟨by rfl, ?_⟩) hS ?_
    rotate_left
    · intro wx hSx; clear hSx; first | (go_simp; done) | (go_simp; with_reducible rfl)
    simp only [Act.put, List.setIfInBounds_toArray, List.set_cons_zero, List.set_cons_succ]
    refine takeH (i := 9) (d := some 33) (v := ?_) rfl rfl (by kernel_rfl) (by kernel_rfl) (by kernel_rfl) (fun _ _ _ h => h) (Or.inl ⟨by rfl, ?_⟩) hS ?_
    rotate_left
    · intro wx hSx; clear hSx; first | (go_simp; done) | (go_simp; with_reducible rfl)
    simp only [Act.put, List.setIfInBounds_toArray, List.set_cons_zero, List.set_cons_succ]
    refine takeH (i := 10) (d := some 34) (v := ?_) rfl rfl (by kernel_rfl) (by kernel_rfl) (by kernel_rfl) (fun _ _ _ h => h) (Or.inl ⟨by rfl, ?_⟩) hS ?_
    rotate_left
    · intro wx hSx; clear hSx; first | (go_simp; done) | (go_simp; with_reducible rfl)
    simp only [Act.put, List.setIfInBounds_toArray, List.set_cons_zero, List.set_cons_succ]
    refine takeH (i := 11) (d := some 35) (v := ?_) rfl rfl (by kernel_rfl) (by kernel_rfl) (by kernel_rfl) (fun _ _ _ h => h) (Or.inl ⟨by rfl, ?_⟩) hS ?_
    rotate_left
    · intro wx hSx; have e0 := hSx.1; have e1 := keep_cell hSx.2 HCS.out.1; have e2 := keep_cell hSx.2 HCS.out.2; clear hSx; first | (go_simp; done) | (go_simp; with_reducible rfl)
    simp only [Act.put, List.setIfInBounds_toArray, List.set_cons_zero, List.set_cons_succ]
    refine takeH (i := 12) (d := some 36) (v := ?_) rfl rfl (by kernel_rfl) (by kernel_rfl) (by kernel_rfl) (fun _ _ _ h => h) (Or.inl ⟨by rfl, ?_⟩) hS ?_
    rotate_left
    · intro wx hSx; clear hSx; first | (go_simp; done) | (go_simp; with_reducible rfl)
    simp only [Act.put, List.setIfInBounds_toArray, List.set_cons_zero, List.set_cons_succ]
    refine takeH (i := 13) (d := some 37) (v := ?_) rfl rfl (by kernel_rfl) (by kernel_rfl) (by kernel_rfl) (fun _ _ _ h => h) (Or.inl ⟨by rfl, ?_⟩) hS ?_
    rotate_left
    · intro wx hSx; clear hSx; first | (go_simp; done) | (go_simp; with_reducible rfl)
    simp only [Act.put, List.setIfInBounds_toArray, List.set_cons_zero, List.set_cons_succ]
    refine takeH (i := 14) (d := some 38) (v := ?_) rfl rfl (by kernel_rfl) (by kernel_rfl) (by kernel_rfl) (fun _ _ _ h => h) (Or.inl ⟨by rfl, ?_⟩) hS ?_
    rotate_left
    · intro wx hSx; have e0 := hSx.1; have e1 := keep_cell hSx.2 HCS.out.1; have e2 := keep_cell hSx.2 HCS.out.2; clear hSx; first | (go_simp; done) | (go_simp; with_reducible rfl)
    simp only [Act.put, List.setIfInBounds_toArray, List.set_cons_zero, List.set_cons_succ]
    refine takeH (i := 15) (d := some 39) (v := ?_) rfl rfl (by kernel_rfl) (by kernel_rfl) (by kernel_rfl) (fun _ _ _ h => h) (Or.inl ⟨by rfl, ?_⟩) hS ?_
    rotate_left
    · intro wx hSx; clear hSx; first | (go_simp; done) | (go_simp; with_reducible rfl)
    simp only [Act.put, List.setIfInBounds_toArray, List.set_cons_zero, List.set_cons_succ]
    refine takeH (i := 16) (d := some 40) (v := ?_) rfl rfl (by kernel_rfl) (by kernel_rfl) (by kernel_rfl) (fun _ _ _ h => h) (Or.inl ⟨by rfl, ?_⟩) hS ?_
    rotate_left
    · intro wx hSx; clear hSx; first | (go_simp; done) | (go_simp; with_reducible rfl)
    simp only [Act.put, List.setIfInBounds_toArray, List.set_cons_zero, List.set_cons_succ]
    refine takeH (i := 17) (d := some 41) (v := ?_) rfl rfl (by kernel_rfl) (by kernel_rfl) (by kernel_rfl) (fun _ _ _ h => h) (Or.inl ⟨by rfl, ?_⟩) hS ?_
    rotate_left
    · intro wx hSx; have e0 := hSx.1; have e1 := keep_cell hSx.2 HCS.out.1; have e2 := keep_cell hSx.2 HCS.out.2; clear hSx; first | (go_simp; done) | (go_simp; with_reducible rfl)
    simp only [Act.put, List.setIfInBounds_toArray, List.set_cons_zero, List.set_cons_succ]
    refine takeH (i := 18) (d := some 42) (v := ?_) rfl rfl (by kernel_rfl) (by kernel_rfl) (by kernel_rfl) (fun _ _ _ h => h) (Or.inl ⟨by rfl, ?_⟩) hS ?_
    rotate_left
    · intro wx hSx; clear hSx; first | (go_simp; done) | (go_simp; with_reducible rfl)
    simp only [Act.put, List.setIfInBounds_toArray, List.set_cons_zero, List.set_cons_succ]
    generalize hwa : World.drew _ = wa at hS ⊢
    replace R1 : Hid (Rn wa g m A c (some bd) d (some gd) e cf du v) := Lib.hid (by rw [← hwa]; exact R1.out)
    replace O1 : Hid (OwnE wa base v q) := Lib.hid (by rw [← hwa]; exact O1.out)
    replace G7 : Hid (Blk wa w.heap.size 104 #[.int .i64 a, .int .i64 b]) := Lib.hid (by rw [← hwa]; exact G7.out)
    replace HMV : Hid (Mv w wa g v.ownBlock) := Lib.hid (by rw [← hwa]; exact HMV.out.drew)
    replace HBC : Hid (Below w0.heap.size w0 wa) := Lib.hid (by rw [← hwa]; exact HBC.out.drew)
    replace hbz : base ≤ wa.heap.size := by rw [← hwa]; exact hbz
    clear c4
    clear hwa
    have HSa := Lib.hid hS
    clear hS
    refine wpAnyH_ready (rs := [4, 19]) (by kernel_rfl) (by simp) ?_
    refine AllReadyH.cons rfl (fun K hK => ?_) (AllReadyH.cons rfl (fun K hK => ?_) AllReadyH.nil)
    · skip
      rw [if_pos (by rfl)]
      have c15 := R1.out.c15
      go_simp
      clear c15
      refine hK.out _ _ HSa.out (fun hS2 => ?_)
      clear hK K hS2
      try simp only [Act.put, List.setIfInBounds_toArray, List.set_cons_zero, List.set_cons_succ]
      refine wpAnyH_ready (rs := [19]) (by kernel_rfl) (by simp) ?_
      refine AllReadyH.cons rfl (fun K hK => ?_) AllReadyH.nil
      rw [if_pos (by rfl)]
      go_simp
      refine hK.out _ _ ⟨keep_cell ((Below.refl wa.heap.size wa).alloc (Nat.le_refl _) _) HSa.out.1, HSa.out.2.alloc HSa.out.2.size _⟩ (fun hS2 => ?_)
      clear hK K
      try simp only [Act.put, List.setIfInBounds_toArray, List.set_cons_zero, List.set_cons_succ]
      replace HSa := Lib.hid hS2
      clear hS2
      refine wpAnyH_ready (rs := [20]) (by kernel_rfl) (by simp) ?_
      refine AllReadyH.cons rfl (fun K hK => ?_) AllReadyH.nil
      rw [if_pos (by rfl)]
      try go_simp
      refine (joined_p v q (now, (i : Int), o) base _ wa rfl O1.out (by omega) hbz).mono ?_
      rintro r wv ⟨v', rfl, hO2, hgr, hloc⟩
      obtain ⟨A2, c2, rfl⟩ := own_slice hO2
      generalize hn2 : (q ++ [(now, (i : Int), o)]).length = n2 at *
      have hal : Below wa.heap.size wa (wa.alloc (.cells #[.int .i64 now, .int .i64 (i : Int), .int .i64 o] 53)) := ((Below.refl wa.heap.size wa).alloc (Nat.le_refl _) _)
      have R1b : Rn (wa.alloc (.cells #[.int .i64 now, .int .i64 (i : Int), .int .i64 o] 53)) g m A c (some bd) d (some gd) e cf du v := Blk.keep R1.out hal
      have O1b : OwnE (wa.alloc (.cells #[.int .i64 now, .int .i64 (i : Int), .int .i64 o] 53)) base v q := own_keep O1.out hal
      have R2 : Rn wv g m A c (some bd) d (some gd) e cf du v := Blk.grown R1b hgr (own_ne_blk O1b R1b (by decide))
      have hmv : Mv wa wv g v.ownBlock := Mv.trans (Mv.of_below hal g v.ownBlock) ⟨hgr.os, hgr.tape, hgr.output, hgr.size, fun b hb _ h2 => hgr.block b hb h2⟩ (.inl rfl)
      have hbv : Below w0.heap.size w0 wv := hmv.below HBC.out HBC.out.size hg0 HROW.out
      refine hK.out _ _ ⟨R2.c4, hbv⟩ (fun hS2 => ?_)
      clear hK K
      try simp only [Act.put, List.setIfInBounds_toArray, List.set_cons_zero, List.set_cons_succ]
      have R2' := Lib.hid R2
      have O2 := Lib.hid hO2
      have G2 := Lib.hid (hmv.blk G7.out h7g h7r)
      have HM2 := Lib.hid (HMV.out.trans hmv (.inl rfl))
      have HL2 : Hid ((Value.slice A2 n2 c2).ownBlock = v.ownBlock ∨ ∃ b, (Value.slice A2 n2 c2).ownBlock = some b ∧ w.heap.size ≤ b) := Lib.hid (by
        rcases hloc with h | h
        · exact .inl h
        · exact .inr ⟨_, h, by have := HMV.out.size; omega⟩)
      replace HBC := Lib.hid hbv
      replace HSa := Lib.hid hS2
      clear hS2 hO2 hgr hloc hal R1b O1b R2 hmv hbv R1 O1 G7 HMV hbz
      try generalize wa.heap.size = kb
      clear wa
      rename World => wa
      refine takeH (i := 21) (d := some 45) (v := ?_) rfl rfl (by kernel_rfl) (by kernel_rfl) (by kernel_rfl) (fun _ _ _ h => h) (Or.inl ⟨by rfl, ?_⟩) HSa.out ?_
      rotate_left
      · intro wx hSx; clear hSx; first | (go_simp; done) | (go_simp; with_reducible rfl)
      simp only [Act.put, List.setIfInBounds_toArray, List.set_cons_zero, List.set_cons_succ]
      refine takeH (i := 22) (d := some 46) (v := ?_) rfl rfl (by kernel_rfl) (by kernel_rfl) (by kernel_rfl) (fun _ _ _ h => h) (Or.inl ⟨by rfl, ?_⟩) HSa.out ?_
      rotate_left
      · intro wx hSx; clear hSx; first | (go_simp; done) | (go_simp; with_reducible rfl)
      simp only [Act.put, List.setIfInBounds_toArray, List.set_cons_zero, List.set_cons_succ]
      refine wpAnyH_ready (rs := [23]) (by kernel_rfl) (by simp) ?_
      refine AllReadyH.cons rfl (fun K hK => ?_) AllReadyH.nil
      rw [if_pos (by rfl)]
      have k15 := R2'.out.c15
      have f15 := Blk.frozen R2'.out 15
      try go_simp
      refine hK.out _ _ ⟨(R2'.out.evs (.slice A2 n2 c2)).c4, below_set HBC.out hg0 _⟩ (fun hS2 => ?_)
      clear hK K k15 f15 hS2
      try simp only [Act.put, List.setIfInBounds_toArray, List.set_cons_zero, List.set_cons_succ]
      generalize hwd : World.setCell _ _ _ = wd
      have R3 : Hid (Rn wd g m A c (some bd) d (some gd) e cf du (.slice A2 n2 c2)) := Lib.hid (by rw [← hwd]; exact R2'.out.evs (.slice A2 n2 c2))
      have O3 : Hid (OwnE wd base (.slice A2 n2 c2) (q ++ [(now, (i : Int), o)])) := Lib.hid (by rw [← hwd]; exact own_set O2.out R2'.out (by decide) _)
      have G3 : Hid (Blk wd w.heap.size 104 #[.int .i64 a, .int .i64 b]) := Lib.hid (by rw [← hwd]; exact G2.out.far h7g _)
      have HM3 : Hid (Mv w wd g v.ownBlock) := Lib.hid (by rw [← hwd]; exact HM2.out.set 15 _)
      have HB3 : Hid (Below w0.heap.size w0 wd) := Lib.hid (by rw [← hwd]; exact below_set HBC.out hg0 _)
      clear hwd R2' O2 G2 HM2 HBC HSa wa
      refine wpAnyH_done (by kernel_rfl) ?_ _
      go_wp2_with fail
      go_meet
      exact ⟨_, R3.out, O3.out, G3.out, HM3.out, HB3.out, HL2.out⟩
    · skip
      rw [if_pos (by rfl)]
      go_simp
      refine hK.out _ _ ⟨keep_cell ((Below.refl wa.heap.size wa).alloc (Nat.le_refl _) _) HSa.out.1, HSa.out.2.alloc HSa.out.2.size _⟩ (fun hS2 => ?_)
      clear hK K
      try simp only [Act.put, List.setIfInBounds_toArray, List.set_cons_zero, List.set_cons_succ]
      replace HSa := Lib.hid hS2
      clear hS2
      refine wpAnyH_ready (rs := [4]) (by kernel_rfl) (by simp) ?_
      refine AllReadyH.cons rfl (fun K hK => ?_) AllReadyH.nil
      rw [if_pos (by rfl)]
      have c15 := keep_cell ((Below.refl wa.heap.size wa).alloc (Nat.le_refl _) (.cells #[.int .i64 now, .int .i64 (i : Int), .int .i64 o] 53)) R1.out.c15
      go_simp
      clear c15
      refine hK.out _ _ HSa.out (fun hS2 => ?_)
      clear hK K hS2
      try simp only [Act.put, List.setIfInBounds_toArray, List.set_cons_zero, List.set_cons_succ]
      refine wpAnyH_ready (rs := [20]) (by kernel_rfl) (by simp) ?_
      refine AllReadyH.cons rfl (fun K hK => ?_) AllReadyH.nil
      rw [if_pos (by rfl)]
      try go_simp
      refine (joined_p v q (now, (i : Int), o) base _ wa rfl O1.out (by omega) hbz).mono ?_
      rintro r wv ⟨v', rfl, hO2, hgr, hloc⟩
      obtain ⟨A2, c2, rfl⟩ := own_slice hO2
      generalize hn2 : (q ++ [(now, (i : Int), o)]).length = n2 at *
      have hal : Below wa.heap.size wa (wa.alloc (.cells #[.int .i64 now, .int .i64 (i : Int), .int .i64 o] 53)) := ((Below.refl wa.heap.size wa).alloc (Nat.le_refl _) _)
      have R1b : Rn (wa.alloc (.cells #[.int .i64 now, .int .i64 (i : Int), .int .i64 o] 53)) g m A c (some bd) d (some gd) e cf du v := Blk.keep R1.out hal
      have O1b : OwnE (wa.alloc (.cells #[.int .i64 now, .int .i64 (i : Int), .int .i64 o] 53)) base v q := own_keep O1.out hal
      have R2 : Rn wv g m A c (some bd) d (some gd) e cf du v := Blk.grown R1b hgr (own_ne_blk O1b R1b (by decide))
      have hmv : Mv wa wv g v.ownBlock := Mv.trans (Mv.of_below hal g v.ownBlock) ⟨hgr.os, hgr.tape, hgr.output, hgr.size, fun b hb _ h2 => hgr.block b hb h2⟩ (.inl rfl)
      have hbv : Below w0.heap.size w0 wv := hmv.below HBC.out HBC.out.size hg0 HROW.out
      refine hK.out _ _ ⟨R2.c4, hbv⟩ (fun hS2 => ?_)
      clear hK K
      try simp only [Act.put, List.setIfInBounds_toArray, List.set_cons_zero, List.set_cons_succ]
      have R2' := Lib.hid R2
      have O2 := Lib.hid hO2
      have G2 := Lib.hid (hmv.blk G7.out h7g h7r)
      have HM2 := Lib.hid (HMV.out.trans hmv (.inl rfl))
      have HL2 : Hid ((Value.slice A2 n2 c2).ownBlock = v.ownBlock ∨ ∃ b, (Value.slice A2 n2 c2).ownBlock = some b ∧ w.heap.size ≤ b) := Lib.hid (by
        rcases hloc with h | h
        · exact .inl h
        · exact .inr ⟨_, h, by have := HMV.out.size; omega⟩)
      replace HBC := Lib.hid hbv
      replace HSa := Lib.hid hS2
      clear hS2 hO2 hgr hloc hal R1b O1b R2 hmv hbv R1 O1 G7 HMV hbz
      try generalize wa.heap.size = kb
      clear wa
      rename World => wa
      refine takeH (i := 21) (d := some 45) (v := ?_) rfl rfl (by kernel_rfl) (by kernel_rfl) (by kernel_rfl) (fun _ _ _ h => h) (Or.inl ⟨by rfl, ?_⟩) HSa.out ?_
      rotate_left
      · intro wx hSx; clear hSx; first | (go_simp; done) | (go_simp; with_reducible rfl)
      simp only [Act.put, List.setIfInBounds_toArray, List.set_cons_zero, List.set_cons_succ]
      refine takeH (i := 22) (d := some 46) (v := ?_) rfl rfl (by kernel_rfl) (by kernel_rfl) (by kernel_rfl) (fun _ _ _ h => h) (Or.inl ⟨by rfl, ?_⟩) HSa.out ?_
      rotate_left
      · intro wx hSx; clear hSx; first | (go_simp; done) | (go_simp; with_reducible rfl)
      simp only [Act.put, List.setIfInBounds_toArray, List.set_cons_zero, List.set_cons_succ]
      refine wpAnyH_ready (rs := [23]) (by kernel_rfl) (by simp) ?_
      refine AllReadyH.cons rfl (fun K hK => ?_) AllReadyH.nil
      rw [if_pos (by rfl)]
      have k15 := R2'.out.c15
      have f15 := Blk.frozen R2'.out 15
      try go_simp
      refine hK.out _ _ ⟨(R2'.out.evs (.slice A2 n2 c2)).c4, below_set HBC.out hg0 _⟩ (fun hS2 => ?_)
      clear hK K k15 f15 hS2
      try simp only [Act.put, List.setIfInBounds_toArray, List.set_cons_zero, List.set_cons_succ]
      generalize hwd : World.setCell _ _ _ = wd
      have R3 : Hid (Rn wd g m A c (some bd) d (some gd) e cf du (.slice A2 n2 c2)) := Lib.hid (by rw [← hwd]; exact R2'.out.evs (.slice A2 n2 c2))
      have O3 : Hid (OwnE wd base (.slice A2 n2 c2) (q ++ [(now, (i : Int), o)])) := Lib.hid (by rw [← hwd]; exact own_set O2.out R2'.out (by decide) _)
      have G3 : Hid (Blk wd w.heap.size 104 #[.int .i64 a, .int .i64 b]) := Lib.hid (by rw [← hwd]; exact G2.out.far h7g _)
      have HM3 : Hid (Mv w wd g v.ownBlock) := Lib.hid (by rw [← hwd]; exact HM2.out.set 15 _)
      have HB3 : Hid (Below w0.heap.size w0 wd) := Lib.hid (by rw [← hwd]; exact below_set HBC.out hg0 _)
      clear hwd R2' O2 G2 HM2 HBC HSa wa
      refine wpAnyH_done (by kernel_rfl) ?_ _
      go_wp2_with fail
      go_meet
      exact ⟨_, R3.out, O3.out, G3.out, HM3.out, HB3.out, HL2.out⟩
  case rest =>
  obtain ⟨v', h1, h2, h3, h4', h5, HL2'⟩ := hcut
  have R3 := Lib.hid h1
  have O3 := Lib.hid h2
  have G3 := Lib.hid h3
  have HM3 := Lib.hid h4'
  have HB3 := Lib.hid h5
  have HL2 := Lib.hid HL2'
  clear h1 h2 h3 h4' h5 HL2' R1 O1 G7 HMV HBC c4 hbz hszw
  rename World => w3
  have hne15 : w3.heap.size = w3.heap.size := rfl
  go_upto_region 3 with fail
  refine wp_region_held_drew (S := fun wx => (∃ cf', Rn wx g m A c (some bd) d (some gd) e cf' du v') ∧ Below w0.heap.size w0 wx) (by kernel_rfl) (⟨⟨cf, R3.out⟩, HB3.out.drew⟩) (fun hS => ?_)
  refine takeH (i := 0) (d := some 48) (v := ?_) rfl rfl (by kernel_rfl) (by kernel_rfl) (by kernel_rfl) (fun _ _ _ h => h) (Or.inl ⟨by rfl, ?_⟩) hS ?_
  rotate_left
  · intro wx hSx; clear hSx; first | (go_simp; done) | (go_simp; with_reducible rfl)
  simp only [Act.put, List.setIfInBounds_toArray, List.set_cons_zero, List.set_cons_succ]
  refine takeH (i := 1) (d := some 49) (v := ?_) rfl rfl (by kernel_rfl) (by kernel_rfl) (by kernel_rfl) (fun _ _ _ h => h) (Or.inl ⟨by rfl, ?_⟩) hS ?_
  rotate_left
  · intro wx hSx; clear hSx; first | (go_simp; done) | (go_simp; with_reducible rfl)
  simp only [Act.put, List.setIfInBounds_toArray, List.set_cons_zero, List.set_cons_succ]
  refine takeH (i := 2) (d := some 50) (v := ?_) rfl rfl (by kernel_rfl) (by kernel_rfl) (by kernel_rfl) (fun _ _ _ h => h) (Or.inl ⟨by rfl, ?_⟩) hS ?_
  rotate_left
  · intro wx hSx; clear hSx; first | (go_simp; done) | (go_simp; with_reducible rfl)
  simp only [Act.put, List.setIfInBounds_toArray, List.set_cons_zero, List.set_cons_succ]
  refine takeH (i := 3) (d := some 51) (v := ?_) rfl rfl (by kernel_rfl) (by kernel_rfl) (by kernel_rfl) (fun _ _ _ h => h) (Or.inl ⟨by rfl, ?_⟩) hS ?_
  rotate_left
  · intro wx hSx; clear hSx; first | (go_simp; done) | (go_simp; with_reducible rfl)
  simp only [Act.put, List.setIfInBounds_toArray, List.set_cons_zero, List.set_cons_succ]
  refine takeH (i := 4) (d := some 52) (v := .agg #[.int .i64 m.I, .int .i64 m.T, .int .i64 m.S, .slice A m.nx.length c, .slice (some bd) m.out.length d, .slice (some gd) m.set.length e]) rfl rfl (by kernel_rfl) (by kernel_rfl) (by kernel_rfl) (fun _ _ _ h => h) (yieldsIf_load_any (by rfl) 25 _ rfl ⟨g, 0, none⟩ rfl [.int .i64 m.I, .int .i64 m.T, .int .i64 m.S, .slice A m.nx.length c, .slice (some bd) m.out.length d, .slice (some gd) m.set.length e] _ (fun wx hSx => (hSx.1.elim (fun _ hh => Blk.part hh 0 _ rfl))) Try.underlying25 rfl (by kernel_rfl)) hS ?_
  simp only [Act.put, List.setIfInBounds_toArray, List.set_cons_zero, List.set_cons_succ]
  refine takeH (i := 5) (d := some 53) (v := ?_) rfl rfl (by kernel_rfl) (by kernel_rfl) (by kernel_rfl) (fun _ _ _ h => h) (Or.inl ⟨by rfl, ?_⟩) hS ?_
  rotate_left
  · intro wx hSx; clear hSx; first | (go_simp; done) | (go_simp; with_reducible rfl)
  simp only [Act.put, List.setIfInBounds_toArray, List.set_cons_zero, List.set_cons_succ]
  refine takeH (i := 6) (d := some 54) (v := ?_) rfl rfl (by kernel_rfl) (by kernel_rfl) (by kernel_rfl) (fun _ _ _ h => h) (Or.inl ⟨by rfl, ?_⟩) hS ?_
  rotate_left
  · intro wx hSx; clear hSx; first | (go_simp; done) | (go_simp; with_reducible rfl)
  simp only [Act.put, List.setIfInBounds_toArray, List.set_cons_zero, List.set_cons_succ]
  refine takeH (i := 7) (d := some 55) (v := ?_) rfl rfl (by kernel_rfl) (by kernel_rfl) (by kernel_rfl) (fun _ _ _ h => h) (Or.inl ⟨by rfl, ?_⟩) hS ?_
  rotate_left
  · intro wx hSx; clear hSx; first | (go_simp; done) | (go_simp; with_reducible rfl)
  simp only [Act.put, List.setIfInBounds_toArray, List.set_cons_zero, List.set_cons_succ]
  refine takeH (i := 9) (d := some 57) (v := ?_) rfl rfl (by kernel_rfl) (by kernel_rfl) (by kernel_rfl) (fun _ _ _ h => h) (Or.inl ⟨by rfl, ?_⟩) hS ?_
  rotate_left
  · intro wx hSx; clear hSx; first | (go_simp; done) | (go_simp; with_reducible rfl)
  simp only [Act.put, List.setIfInBounds_toArray, List.set_cons_zero, List.set_cons_succ]
  generalize hwa : World.drew _ = wa at hS ⊢
  replace R3 : Hid (Rn wa g m A c (some bd) d (some gd) e cf du v') := Lib.hid (by rw [← hwa]; exact R3.out)
  replace O3 : Hid (OwnE wa base v' (q ++ [(now, (i : Int), o)])) := Lib.hid (by rw [← hwa]; exact O3.out)
  replace G3 : Hid (Blk wa w.heap.size 104 #[.int .i64 a, .int .i64 b]) := Lib.hid (by rw [← hwa]; exact G3.out)
  replace HM3 : Hid (Mv w wa g v.ownBlock) := Lib.hid (by rw [← hwa]; exact HM3.out.drew)
  replace HB3 : Hid (Below w0.heap.size w0 wa) := Lib.hid (by rw [← hwa]; exact HB3.out.drew)
  clear hwa
  have HSa := Lib.hid hS
  clear hS
  refine wpAnyH_ready (rs := [8]) (by kernel_rfl) (by simp) ?_
  refine AllReadyH.cons rfl (fun K hK => ?_) AllReadyH.nil
  rw [if_pos (by rfl)]
  refine wp_load_any 66 _ rfl ⟨g, 6, none⟩ rfl [.int .i64 (cf.1 : Nat), .bool (cf.2.getD 0 false), .bool (cf.2.getD 1 false), .bool (cf.2.getD 2 false), .bool (cf.2.getD 3 false)] _ (Blk.part R3.out 6 _ rfl) Try.underlying66 rfl (by kernel_rfl) ?_
  refine hK.out _ _ HSa.out (fun hS2 => ?_)
  clear hK K hS2
  change wpAnyH _ _ _ _ _ _ _ (Act.put _ (some 56) _) _
  try simp only [Act.put, List.setIfInBounds_toArray, List.set_cons_zero, List.set_cons_succ]
  refine wpAnyH_ready (rs := [10]) (by kernel_rfl) (by simp) ?_
  refine AllReadyH.cons rfl (fun K hK => ?_) AllReadyH.nil
  rw [if_pos (by rfl)]
  try go_simp
  refine (after_p m k T S cf i A (some bd) (some gd) c d e wa HM.out HC.out hi (HR.out.keep HB3.out)).mono ?_
  rintro r wv ⟨rfl, hb⟩
  rw [show resC m k cf i = Tm.aftC m k cf i by unfold resC; rw [if_pos HPo.out]]
  have R4 := Lib.hid (Blk.keep R3.out hb)
  refine hK.out _ _ ⟨⟨cf, R4.out⟩, below_seq HB3.out hb⟩ (fun hS2 => ?_)
  clear hK K
  try simp only [Act.put, List.setIfInBounds_toArray, List.set_cons_zero, List.set_cons_succ]
  replace O3 := Lib.hid (own_keep O3.out hb)
  replace G3 := Lib.hid (G3.out.keep hb)
  replace HM3 := Lib.hid (HM3.out.trans (Mv.of_below hb g v.ownBlock) (.inl rfl))
  replace HB3 := Lib.hid (below_seq HB3.out hb)
  replace HSa := Lib.hid hS2
  clear hS2 hb R3 wa
  rename World => wa
  generalize Tm.aftC m k cf i = cf2 at *
  generalize resN m k cf i = rn at *
  refine takeH (i := 11) (d := some 47) (v := ?_) rfl rfl (by kernel_rfl) (by kernel_rfl) (by kernel_rfl) (fun _ _ _ h => h) (Or.inl ⟨by rfl, ?_⟩) HSa.out ?_
  rotate_left
  · intro wx hSx; clear hSx; first | (go_simp; done) | (go_simp; with_reducible rfl)
  simp only [Act.put, List.setIfInBounds_toArray, List.set_cons_zero, List.set_cons_succ]
  refine takeH (i := 12) (d := some 59) (v := ?_) rfl rfl (by kernel_rfl) (by kernel_rfl) (by kernel_rfl) (fun _ _ _ h => h) (Or.inl ⟨by rfl, ?_⟩) HSa.out ?_
  rotate_left
  · intro wx hSx; clear hSx; first | (go_simp; done) | (go_simp; with_reducible rfl)
  simp only [Act.put, List.setIfInBounds_toArray, List.set_cons_zero, List.set_cons_succ]
  refine takeH (i := 13) (d := some 60) (v := ?_) rfl rfl (by kernel_rfl) (by kernel_rfl) (by kernel_rfl) (fun _ _ _ h => h) (Or.inl ⟨by rfl, ?_⟩) HSa.out ?_
  rotate_left
  · intro wx hSx; clear hSx; first | (go_simp; done) | (go_simp; with_reducible rfl)
  simp only [Act.put, List.setIfInBounds_toArray, List.set_cons_zero, List.set_cons_succ]
  refine takeH (i := 14) (d := some 61) (v := ?_) rfl rfl (by kernel_rfl) (by kernel_rfl) (by kernel_rfl) (fun _ _ _ h => h) (Or.inl ⟨by rfl, ?_⟩) HSa.out ?_
  rotate_left
  · intro wx hSx; clear hSx; first | (go_simp; done) | (go_simp; with_reducible rfl)
  simp only [Act.put, List.setIfInBounds_toArray, List.set_cons_zero, List.set_cons_succ]
  refine takeH (i := 15) (d := some 62) (v := ?_) rfl rfl (by kernel_rfl) (by kernel_rfl) (by kernel_rfl) (fun _ _ _ h => h) (Or.inl ⟨by rfl, ?_⟩) HSa.out ?_
  rotate_left
  · intro wx hSx; clear hSx; first | (go_simp; done) | (go_simp; with_reducible rfl)
  simp only [Act.put, List.setIfInBounds_toArray, List.set_cons_zero, List.set_cons_succ]
  refine takeH (i := 16) (d := some 63) (v := ?_) rfl rfl (by kernel_rfl) (by kernel_rfl) (by kernel_rfl) (fun _ _ _ h => h) (Or.inl ⟨by rfl, ?_⟩) HSa.out ?_
  rotate_left
  · intro wx hSx; clear hSx; first | (go_simp; done) | (go_simp; with_reducible rfl)
  simp only [Act.put, List.setIfInBounds_toArray, List.set_cons_zero, List.set_cons_succ]
  refine wpAnyH_ready (rs := [17]) (by kernel_rfl) (by simp) ?_
  refine AllReadyH.cons rfl (fun K hK => ?_) AllReadyH.nil
  rw [if_pos (by rfl)]
  refine wp_store_mid 66 _ _ rfl g 6 (pc cf2) rfl rfl (fun j hj => ?_) (by kernel_rfl) (pc_one cf2) ?_
  · have hj5 : j < 5 := hj
    refine ⟨?_, Blk.frozen R4.out _⟩
    rw [Blk.cell R4.out]
    rcases j with _ | _ | _ | _ | _ | j <;> first | rfl | omega
  refine hK.out _ _ ⟨⟨cf2, Rn.cfg R4.out cf2⟩, below_sets hg0 _ 6 HB3.out⟩ (fun hS2 => ?_)
  clear hK K hS2
  change wpAnyH _ _ _ _ _ _ _ (Act.put _ none _) _
  try simp only [Act.put]
  generalize hwd : World.setCells _ _ _ _ = wd
  have R5 : Hid (Rn wd g m A c (some bd) d (some gd) e cf2 du v') := Lib.hid (by rw [← hwd]; exact Rn.cfg R4.out cf2)
  replace O3 : Hid (OwnE wd base v' (q ++ [(now, (i : Int), o)])) := Lib.hid (by rw [← hwd]; exact own_sets (by decide) _ _ _ _ O3.out R4.out)
  replace G3 : Hid (Blk wd w.heap.size 104 #[.int .i64 a, .int .i64 b]) := Lib.hid (by rw [← hwd]; exact blk_sets h7g _ _ G3.out)
  replace HM3 : Hid (Mv w wd g v.ownBlock) := Lib.hid (by rw [← hwd]; exact HM3.out.sets _ _)
  replace HB3 : Hid (Below w0.heap.size w0 wd) := Lib.hid (by rw [← hwd]; exact below_sets hg0 _ _ HB3.out)
  clear hwd R4 HSa wa
  refine wpAnyH_done (by kernel_rfl) ?_ _
  rename World => wd
  have g0 : wd.cell? ⟨w.heap.size, 0, none⟩ = some (.int .i64 a) := G3.out.cell 0
  by_cases ha : a < 0
  · have d1 : ¬ 0 ≤ a := by omega
    go_upto_region 4 with fail
    go_wp2_with fail
    go_end0
    exact ⟨rfl, v', by rw [upd_neg ha]; exact R5.out, O3.out, HM3.out, HL2.out⟩
  obtain ⟨n, rfl⟩ : ∃ n : Nat, a = n := ⟨a.toNat, by omega⟩
  have d1 : (0 : Int) ≤ (n : Int) := by omega
  go_upto_region 5 with fail
  clear g0 d1
  have hn4 : (n : Int) < 4 := by omega
  refine wp_region_held_drew (S := fun wx => Blk wx w.heap.size 104 #[.int .i64 (n : Int), .int .i64 b]) (by kernel_rfl) (G3.out) (fun hS => ?_)
  refine takeH (i := 0) (d := some 67) (v := ?_) rfl rfl (by kernel_rfl) (by kernel_rfl) (by kernel_rfl) (fun _ _ _ h => h) (Or.inl ⟨by rfl, ?_⟩) hS ?_
  rotate_left
  · intro wx hSx; clear hSx; first | (go_simp; done) | (go_simp; with_reducible rfl)
  simp only [Act.put, List.setIfInBounds_toArray, List.set_cons_zero, List.set_cons_succ]
  refine takeH (i := 1) (d := some 68) (v := ?_) rfl rfl (by kernel_rfl) (by kernel_rfl) (by kernel_rfl) (fun _ _ _ h => h) (Or.inl ⟨by rfl, ?_⟩) hS ?_
  rotate_left
  · intro wx hSx; clear hSx; first | (go_simp; done) | (go_simp; with_reducible rfl)
  simp only [Act.put, List.setIfInBounds_toArray, List.set_cons_zero, List.set_cons_succ]
  refine takeH (i := 2) (d := some 69) (v := ?_) rfl rfl (by kernel_rfl) (by kernel_rfl) (by kernel_rfl) (fun _ _ _ h => h) (Or.inl ⟨by rfl, ?_⟩) hS ?_
  rotate_left
  · intro wx hSx; have e0 : wx.cell? ⟨w.heap.size, 0, none⟩ = some (.int .i64 (n : Int)) := Blk.cell hSx 0; have e1 : wx.cell? ⟨w.heap.size, 1, none⟩ = some (.int .i64 b) := Blk.cell hSx 1; clear hSx; first | (go_simp; done) | (go_simp; with_reducible rfl)
  simp only [Act.put, List.setIfInBounds_toArray, List.set_cons_zero, List.set_cons_succ]
  refine takeH (i := 3) (d := some 70) (v := ?_) rfl rfl (by kernel_rfl) (by kernel_rfl) (by kernel_rfl) (fun _ _ _ h => h) (Or.inl ⟨by rfl, ?_⟩) hS ?_
  rotate_left
  · intro wx hSx; clear hSx; first | (go_simp; done) | (go_simp; with_reducible rfl)
  simp only [Act.put, List.setIfInBounds_toArray, List.set_cons_zero, List.set_cons_succ]
  refine takeH (i := 4) (d := some 71) (v := ?_) rfl rfl (by kernel_rfl) (by kernel_rfl) (by kernel_rfl) (fun _ _ _ h => h) (Or.inl ⟨by rfl, ?_⟩) hS ?_
  rotate_left
  · intro wx hSx; clear hSx; first | (go_simp; done) | (go_simp; with_reducible rfl)
  simp only [Act.put, List.setIfInBounds_toArray, List.set_cons_zero, List.set_cons_succ]
  refine takeH (i := 5) (d := some 72) (v := ?_) rfl rfl (by kernel_rfl) (by kernel_rfl) (by kernel_rfl) (fun _ _ _ h => h) (Or.inl ⟨by rfl, ?_⟩) hS ?_
  rotate_left
  · intro wx hSx; have e0 : wx.cell? ⟨w.heap.size, 0, none⟩ = some (.int .i64 (n : Int)) := Blk.cell hSx 0; have e1 : wx.cell? ⟨w.heap.size, 1, none⟩ = some (.int .i64 b) := Blk.cell hSx 1; clear hSx; first | (go_simp; done) | (go_simp; with_reducible rfl)
  simp only [Act.put, List.setIfInBounds_toArray, List.set_cons_zero, List.set_cons_succ]
  refine takeH (i := 6) (d := some 73) (v := ?_) rfl rfl (by kernel_rfl) (by kernel_rfl) (by kernel_rfl) (fun _ _ _ h => h) (Or.inl ⟨by rfl, ?_⟩) hS ?_
  rotate_left
  · intro wx hSx; clear hSx; have hw1 := IntWalk.i64_in (now + b) (by omega); first | (go_simp; done) | (go_simp; with_reducible rfl)
  simp only [Act.put, List.setIfInBounds_toArray, List.set_cons_zero, List.set_cons_succ]
  refine takeH (i := 7) (d := some 74) (v := ?_) rfl rfl (by kernel_rfl) (by kernel_rfl) (by kernel_rfl) (fun _ _ _ h => h) (Or.inl ⟨by rfl, ?_⟩) hS ?_
  rotate_left
  · intro wx hSx; clear hSx; first | (go_simp; done) | (go_simp; with_reducible rfl)
  simp only [Act.put, List.setIfInBounds_toArray, List.set_cons_zero, List.set_cons_succ]
  refine takeH (i := 8) (d := some 75) (v := ?_) rfl rfl (by kernel_rfl) (by kernel_rfl) (by kernel_rfl) (fun _ _ _ h => h) (Or.inl ⟨by rfl, ?_⟩) hS ?_
  rotate_left
  · intro wx hSx; clear hSx; first | (go_simp; done) | (go_simp; with_reducible rfl)
  simp only [Act.put, List.setIfInBounds_toArray, List.set_cons_zero, List.set_cons_succ]
  refine takeH (i := 9) (d := some 76) (v := ?_) rfl rfl (by kernel_rfl) (by kernel_rfl) (by kernel_rfl) (fun _ _ _ h => h) (Or.inl ⟨by rfl, ?_⟩) hS ?_
  rotate_left
  · intro wx hSx; clear hSx; first | (go_simp; done) | (go_simp; with_reducible rfl)
  simp only [Act.put, List.setIfInBounds_toArray, List.set_cons_zero, List.set_cons_succ]
  generalize hwa : World.drew _ = wa at hS ⊢
  replace R5 : Hid (Rn wa g m A c (some bd) d (some gd) e cf2 du v') := Lib.hid (by rw [← hwa]; exact R5.out)
  replace O3 : Hid (OwnE wa base v' (q ++ [(now, (i : Int), o)])) := Lib.hid (by rw [← hwa]; exact O3.out)
  replace G3 : Hid (Blk wa w.heap.size 104 #[.int .i64 (n : Int), .int .i64 b]) := Lib.hid (by rw [← hwa]; exact G3.out)
  replace HM3 : Hid (Mv w wa g v.ownBlock) := Lib.hid (by rw [← hwa]; exact HM3.out.drew)
  clear hwa
  have HSa := Lib.hid hS
  clear hS
  refine wpAnyH_ready (rs := [10]) (by kernel_rfl) (by simp) ?_
  refine AllReadyH.cons rfl (fun K hK => ?_) AllReadyH.nil
  rw [if_pos (by rfl)]
  have kd := Rn.due R5.out (show n < 4 by omega)
  have fd := Blk.frozen R5.out (11 + n)
  try go_simp
  refine hK.out _ _ (G3.out.far h7g _) (fun hS2 => ?_)
  clear hK K hS2 kd fd
  try simp only [Act.put, List.setIfInBounds_toArray, List.set_cons_zero, List.set_cons_succ]
  refine wpAnyH_done (by kernel_rfl) ?_ _
  go_wp2_with fail
  go_end0
  exact ⟨rfl, v', Rn.set_due R5.out (by omega) _, own_set O3.out R5.out (by decide) _, HM3.out.set _ _, HL2.out⟩
end Go.Proofs.Ytpcoddbkcelaoaa
