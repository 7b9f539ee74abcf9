/- Devices: the row of a device. -/
import Derived.Test.YtpoppadihbgbgaaDev6
import Derived.Deep.RegionHeld3
import Derived.Deep.RegionWith
import Derived.Deep.DeepCutAuto
namespace Go.Proofs.Ytpoppadihbgbgaa
open Go.RowKit

/-- a device's row -/
def RowD (w : World) (k t : Nat) (x : Dv) (A : Option Addr) (c : Nat) (B : Option Addr) (d : Nat) (C : Option Addr) (e : Nat) : Prop := w.heap[k]? = some (.cells (#[Value.int IntKind.i64 (Dv.I x), Value.int IntKind.i64 (Dv.S x), Value.slice A (Dv.nx x).length c, Value.slice B (Dv.out x).length d, Value.int IntKind.i64 (Dv.st x), Value.bool (Dv.rdy x), Value.slice C (Dv.step x).length e, Value.int IntKind.i64 (Dv.rs x), Value.int IntKind.i64 (Dv.lost x), Value.int IntKind.i64 (Dv.wrong x), Value.int IntKind.i64 (Dv.crash x), Value.int IntKind.u64 (Dv.seed x), Value.int IntKind.i64 (Dv.steps x), Value.int IntKind.i64 (Dv.resets x), Value.int IntKind.i64 (Dv.time x)]) t)
theorem RowD.box {w : World} {k t : Nat} {x : Dv} {A B C : Option Addr} {c d e : Nat} (h : RowD w k t x A c B d C e) : BoxD w k x A c B d C e := by
  unfold RowD at h
  constructor <;> (rw [cell_of_row w k _ _ t (0, 0) h]; rfl)
theorem RowD.fro {w : World} {k t : Nat} {x : Dv} {A B C : Option Addr} {c d e : Nat} (h : RowD w k t x A c B d C e) (o : Nat) : w.frozen? ⟨k, o, none⟩ = false := by
  unfold RowD at h
  simp [World.frozen?, h]
theorem RowD.keep {w w' : World} {N k t : Nat} {x : Dv} {A B C : Option Addr} {c d e : Nat} (h : RowD w k t x A c B d C e) (hk : k < N) (hb : Below N w w') : RowD w' k t x A c B d C e := (hb.block k hk).trans h
theorem RowD.lt {w : World} {k t : Nat} {x : Dv} {A B C : Option Addr} {c d e : Nat} (h : RowD w k t x A c B d C e) : k < w.heap.size := by
  unfold RowD at h
  exact (Array.getElem?_eq_some_iff.1 h).1
theorem RowD.setA {w : World} {k t : Nat} {x : Dv} {A B C : Option Addr} {c d e : Nat} (h : RowD w k t x A c B d C e) (A' : Option Addr) (c' : Nat) : RowD (w.setCell ⟨k, 2, none⟩ (.slice A' x.nx.length c')) k t x A' c' B d C e := by
  unfold RowD at *
  rw [heap_setCell_same w k 2 _ t _ h]
  rfl
theorem RowD.setB {w : World} {k t : Nat} {x : Dv} {A B C : Option Addr} {c d e : Nat} (h : RowD w k t x A c B d C e) (B' : Option Addr) (d' : Nat) : RowD (w.setCell ⟨k, 3, none⟩ (.slice B' x.out.length d')) k t x A c B' d' C e := by
  unfold RowD at *
  rw [heap_setCell_same w k 3 _ t _ h]
  rfl
theorem RowD.setC {w : World} {k t : Nat} {x : Dv} {A B C : Option Addr} {c d e : Nat} (h : RowD w k t x A c B d C e) (C' : Option Addr) (e' : Nat) : RowD (w.setCell ⟨k, 6, none⟩ (.slice C' x.step.length e')) k t x A c B d C' e' := by
  unfold RowD at *
  rw [heap_setCell_same w k 6 _ t _ h]
  rfl
theorem dc_one (x : Dv) (A : Option Addr) (c : Nat) (B : Option Addr) (d : Nat) (C : Option Addr) (e : Nat) : (#[Value.int IntKind.i64 (Dv.I x), Value.int IntKind.i64 (Dv.S x), Value.slice A (Dv.nx x).length c, Value.slice B (Dv.out x).length d, Value.int IntKind.i64 (Dv.st x), Value.bool (Dv.rdy x), Value.slice C (Dv.step x).length e, Value.int IntKind.i64 (Dv.rs x), Value.int IntKind.i64 (Dv.lost x), Value.int IntKind.i64 (Dv.wrong x), Value.int IntKind.i64 (Dv.crash x), Value.int IntKind.u64 (Dv.seed x), Value.int IntKind.i64 (Dv.steps x), Value.int IntKind.i64 (Dv.resets x), Value.int IntKind.i64 (Dv.time x)]).all (·.oneCell') = true := by simp [Value.oneCell']
theorem OwnM.set {w : World} {base e1 e2 k j : Nat} {v : Value} {xss : List (List Int)} (h : OwnM w base e1 e2 v xss) (hk : k < base) (u : Value) : OwnM (w.setCell ⟨k, j, none⟩ u) base e1 e2 v xss := by
  obtain ⟨ys, h1, h2⟩ := h
  refine ⟨ys, ownsRow_setCell_below h1 hk u, fun i hi => ?_⟩
  obtain ⟨B, c, h3, h4⟩ := h2 i hi
  exact ⟨B, c, h3, ownsRow_setCell_below h4 hk u⟩
theorem size_setCell (w : World) (a : Addr) (u : Value) : (w.setCell a u).heap.size = w.heap.size := by simp
theorem own1 {w : World} {base base' e1 e2 : Nat} {v : Value} {xss : List (List Int)} (h : OwnM w base e1 e2 v xss) (hb : base' ≤ base) : OwnM w base' e1 e2 v xss := h.mono hb
theorem take1 {P : Program} {ops : Array Oper} {Q : Exit → Act → World → Prop} {md : Region.Mode} {i : Nat} {oi : Oper} {v : Value} {d : Option Tmp} {fuel : Nat} {listed : Array Bool} {a : Act} {w : World} (hi : ops[i]? = some oi) (hd : oi.dst = d)
    (hs : Region.noSelect ops = true) (hf : Region.free md ops listed i = true) (hr : (Region.ready md ops listed).contains i = true)
    (hQ : ∀ c a w, Q (.panic c) (a.put d v) w → Q (.panic c) a w) (hy : Yields P ops oi v a)
    (h : wpAny P md ops Q fuel (listed.setIfInBounds i true) (a.put d v) w) : wpAny P md ops Q (fuel + 1) listed a w := by
  subst hd
  exact wpAny_take hi hs hf hr hQ hy h
theorem ownsRow_setRow {w : World} {base e size n g : Nat} {v : Value} {xs : List Value} (h : w.ownsRow base e size v n xs) (hg : g < base) (cs : Array Value) : (w.setRow g cs).ownsRow base e size v n xs := by
  refine ⟨h.1, ?_⟩
  rcases h.2 with h0 | ⟨b, cap, cur, hv, hb, hh, hr⟩
  · exact .inl h0
  · refine .inr ⟨b, cap, cur, hv, hb, ?_, hr⟩
    rw [setRow_other _ _ _ _ (by omega)]
    exact hh
theorem OwnM.setRow {w : World} {base e1 e2 g : Nat} {v : Value} {xss : List (List Int)} (h : OwnM w base e1 e2 v xss) (hg : g < base) (cs : Array Value) : OwnM (w.setRow g cs) base e1 e2 v xss := by
  obtain ⟨ys, h1, h2⟩ := h
  refine ⟨ys, ownsRow_setRow h1 hg cs, fun i hi => ?_⟩
  obtain ⟨B, c, h3, h4⟩ := h2 i hi
  exact ⟨B, c, h3, ownsRow_setRow h4 hg cs⟩
theorem belowRow {B g : Nat} {w0 w : World} (hb : Below B w0 w) (hBg : B ≤ g) (cs : Array Value) : Below B w0 (w.setRow g cs) :=
  hb.trans ⟨rfl, rfl, rfl, by simp [World.setRow], fun k hk => setRow_other w g k cs (by omega)⟩
theorem RowD.put {w : World} {g t : Nat} {z : Array Value} (hz : w.heap[g]? = some (.cells z t)) (x : Dv) (A : Option Addr) (c : Nat) (B : Option Addr) (d : Nat) (C : Option Addr) (e : Nat) : RowD (w.setRow g (#[Value.int IntKind.i64 (Dv.I x), Value.int IntKind.i64 (Dv.S x), Value.slice A (Dv.nx x).length c, Value.slice B (Dv.out x).length d, Value.int IntKind.i64 (Dv.st x), Value.bool (Dv.rdy x), Value.slice C (Dv.step x).length e, Value.int IntKind.i64 (Dv.rs x), Value.int IntKind.i64 (Dv.lost x), Value.int IntKind.i64 (Dv.wrong x), Value.int IntKind.i64 (Dv.crash x), Value.int IntKind.u64 (Dv.seed x), Value.int IntKind.i64 (Dv.steps x), Value.int IntKind.i64 (Dv.resets x), Value.int IntKind.i64 (Dv.time x)])) g t x A c B d C e :=
  setRow_heap w g z _ t (0, 0) hz
theorem ownsRow_up {w w' : World} {base e size n : Nat} {v : Value} {xs : List Value} (h : w.ownsRow base e size v n xs) (hk : ∀ g, base ≤ g → g < w.heap.size → w'.heap[g]? = w.heap[g]?) : w'.ownsRow base e size v n xs := by
  refine ⟨h.1, ?_⟩
  rcases h.2 with h0 | ⟨b, cap, cur, hv, hb, hh, hr⟩
  · exact .inl h0
  · exact .inr ⟨b, cap, cur, hv, hb, (hk b hb (Array.getElem?_eq_some_iff.1 hh).1).trans hh, hr⟩
theorem OwnM.up {w w' : World} {base e1 e2 : Nat} {v : Value} {xss : List (List Int)} (h : OwnM w base e1 e2 v xss) (hk : ∀ g, base ≤ g → g < w.heap.size → w'.heap[g]? = w.heap[g]?) : OwnM w' base e1 e2 v xss := by
  obtain ⟨ys, h1, h2⟩ := h
  refine ⟨ys, ownsRow_up h1 hk, fun i hi => ?_⟩
  obtain ⟨B, c, h3, h4⟩ := h2 i hi
  exact ⟨B, c, h3, ownsRow_up h4 hk⟩
/-- a device's memory, all of it from base on -/
def RdU (w : World) (base : Nat) (A B C : Option Addr) (x : Dv) : Prop := ∀ w' : World, (∀ g, base ≤ g → g < w.heap.size → w'.heap[g]? = w.heap[g]?) → RdD w' A B C x
theorem RdU.rd {w : World} {base : Nat} {A B C : Option Addr} {x : Dv} (h : RdU w base A B C x) : RdD w A B C x := h w fun _ _ _ => rfl
theorem RdU.keep {w w2 : World} {base : Nat} {A B C : Option Addr} {x : Dv} (h : RdU w base A B C x) (hb : Below w.heap.size w w2) : RdU w2 base A B C x :=
  fun w' hk => h w' fun g h1 h2 => (hk g h1 (Nat.lt_of_lt_of_le h2 hb.size)).trans (hb.block g h2)
theorem RdU.row {w : World} {base g : Nat} {A B C : Option Addr} {x : Dv} (h : RdU w base A B C x) (hg : g < base) (cs : Array Value) : RdU (w.setRow g cs) base A B C x :=
  fun w' hk => h w' fun b h1 h2 => (hk b h1 (by simpa using h2)).trans (setRow_other w g b cs (by omega))
theorem RdU.mono {w : World} {base base' : Nat} {A B C : Option Addr} {x : Dv} (h : RdU w base A B C x) (hb : base' ≤ base) : RdU w base' A B C x :=
  fun w' hk => h w' fun g h1 h2 => hk g (Nat.le_trans hb h1) h2
theorem info32 : (Try.prog.info? 32).map (·.size) = some 15 := by kernel_rfl
theorem info77 : (Try.prog.info? 77).map (·.size) = some 15 := by kernel_rfl
theorem ret_d1 {fn : Func} {p : Tmp} {a : Act} {w : World} {g t : Nat} {x : Dv} {A B C : Option Addr} {c d e : Nat} {R : Ending → World → Prop} (h : RowD w g t x A c B d C e) (hf : fn.results = #[.cell p 32])
    (hp : a.tmps.getD p undef = .pointer (some ⟨g, 0, none⟩)) (hd : a.defers = []) (hR : R (.returned ((Value.agg #[Value.int IntKind.i64 (Dv.I x), Value.int IntKind.i64 (Dv.S x), Value.slice A (Dv.nx x).length c, Value.slice B (Dv.out x).length d, Value.int IntKind.i64 (Dv.st x), Value.bool (Dv.rdy x), Value.slice C (Dv.step x).length e, Value.int IntKind.i64 (Dv.rs x), Value.int IntKind.i64 (Dv.lost x), Value.int IntKind.i64 (Dv.wrong x), Value.int IntKind.i64 (Dv.crash x), Value.int IntKind.u64 (Dv.seed x), Value.int IntKind.i64 (Dv.steps x), Value.int IntKind.i64 (Dv.resets x), Value.int IntKind.i64 (Dv.time x)]))) w) : bodyPost Try.prog fn R .ret a w :=
  bodyPost_ret (results_cell_row hf a.tmps w g t _ (0, 0) _ hp h Try.underlying32 rfl info32) hd hR
theorem ret_d2 {fn : Func} {p q : Tmp} {a : Act} {w : World} {g t : Nat} {x : Dv} {A B C : Option Addr} {c d e : Nat} {R : Ending → World → Prop} (h : RowD w g t x A c B d C e) (hf : fn.results = #[.cell p 32, .tmp q])
    (hp : a.tmps.getD p undef = .pointer (some ⟨g, 0, none⟩)) (hd : a.defers = []) (hR : R (.returned (.tuple #[(Value.agg #[Value.int IntKind.i64 (Dv.I x), Value.int IntKind.i64 (Dv.S x), Value.slice A (Dv.nx x).length c, Value.slice B (Dv.out x).length d, Value.int IntKind.i64 (Dv.st x), Value.bool (Dv.rdy x), Value.slice C (Dv.step x).length e, Value.int IntKind.i64 (Dv.rs x), Value.int IntKind.i64 (Dv.lost x), Value.int IntKind.i64 (Dv.wrong x), Value.int IntKind.i64 (Dv.crash x), Value.int IntKind.u64 (Dv.seed x), Value.int IntKind.i64 (Dv.steps x), Value.int IntKind.i64 (Dv.resets x), Value.int IntKind.i64 (Dv.time x)]), a.tmps.getD q undef])) w) : bodyPost Try.prog fn R .ret a w := by
  refine bodyPost_ret ?_ hd hR
  have hp' : a.tmps[p]?.getD undef = .pointer (some ⟨g, 0, none⟩) := by simpa using hp
  have hl := run_loadVar_row (P := Try.prog) w g t 32 _ (0, 0) _ h Try.underlying32 rfl info32
  simp [results, hf, hp', asAddr, hl]
theorem ret_d3 {fn : Func} {p q r : Tmp} {a : Act} {w : World} {g t : Nat} {x : Dv} {A B C : Option Addr} {c d e : Nat} {R : Ending → World → Prop} (h : RowD w g t x A c B d C e) (hf : fn.results = #[.cell p 32, .tmp q, .tmp r])
    (hp : a.tmps.getD p undef = .pointer (some ⟨g, 0, none⟩)) (hd : a.defers = []) (hR : R (.returned (.tuple #[(Value.agg #[Value.int IntKind.i64 (Dv.I x), Value.int IntKind.i64 (Dv.S x), Value.slice A (Dv.nx x).length c, Value.slice B (Dv.out x).length d, Value.int IntKind.i64 (Dv.st x), Value.bool (Dv.rdy x), Value.slice C (Dv.step x).length e, Value.int IntKind.i64 (Dv.rs x), Value.int IntKind.i64 (Dv.lost x), Value.int IntKind.i64 (Dv.wrong x), Value.int IntKind.i64 (Dv.crash x), Value.int IntKind.u64 (Dv.seed x), Value.int IntKind.i64 (Dv.steps x), Value.int IntKind.i64 (Dv.resets x), Value.int IntKind.i64 (Dv.time x)]), a.tmps.getD q undef, a.tmps.getD r undef])) w) : bodyPost Try.prog fn R .ret a w := by
  refine bodyPost_ret ?_ hd hR
  have hp' : a.tmps[p]?.getD undef = .pointer (some ⟨g, 0, none⟩) := by simpa using hp
  have hl := run_loadVar_row (P := Try.prog) w g t 32 _ (0, 0) _ h Try.underlying32 rfl info32
  simp [results, hf, hp', asAddr, hl]
end Go.Proofs.Ytpoppadihbgbgaa
