/- The code's maps to numbers: where a key is in a list of keys. -/
import Derived.Test.YtaoebjabdejpoaaCel
import Derived.Test.YtaoebjabdejpoaaKt
import Derived.Maps.Own
import Derived.Maps.OwnSet
import Derived.Maps.Views
import Derived.DeepKeys4
namespace Go.Proofs.Ytaoebjabdejpoaa
open Go.RowKit

theorem wf_small {n : Int} (h0 : -9223372036854775808 ≤ n) (h1 : n ≤ 9223372036854775807) : (Lit.int .i64 n).wf = true := by
  have hmin : IntKind.i64.min = -9223372036854775808 := by kernel_rfl
  have hmax : IntKind.i64.max = 9223372036854775807 := by kernel_rfl
  show (decide (IntKind.i64.min ≤ n) && decide (n ≤ IntKind.i64.max)) = true
  rw [hmin, hmax, decide_eq_true h0, decide_eq_true h1]; rfl
theorem map_notT {t : TypeId} : ∀ es cl, ¬ isT t (.map es cl) := by
  rintro es cl ⟨cs, p, e⟩
  cases e
theorem below_grown {w0 w w' : World} {B b : Nat} (h : Below B w0 w) (hg : w.grownBy w' (some b)) (hb : B ≤ b) (hB : B ≤ w.heap.size) : Below B w0 w' :=
  ⟨hg.os.trans h.os, hg.tape.trans h.tape, hg.output.trans h.output, Nat.le_trans h.size hg.size, fun i hi => (hg.block i (Nat.lt_of_lt_of_le hi hB) (by intro e; injection e with e; omega)).trans (h.block i hi)⟩
/-- what is asked of a kind of keys -/
structure KeyKind {α : Type} (kt mt : TypeId) (kv : α → Value) (ok : α → Prop) : Prop where
  map : Try.prog.underlying mt = some (.map kt 3)
  keyed : Maps.Keyed Try.prog kt
  ex : ∀ x, ok x → ∃ kl, keyOf Try.prog kt (kv x) = some kl
  inj : ∀ x y, ok x → ok y → kv x = kv y → x = y
/-- the block b is a map: a key's place in the list and what is added to it; not there at others -/
def MapK {α : Type} [DecidableEq α] (kt : TypeId) (kv : α → Value) (ok : α → Prop) (off : Nat) (w : World) (b : Nat) (q : List α) : Prop :=
  ∃ D : DataW Unit, w.ownsMap Try.prog kt (plainElem Try.prog 3) b q.length D ∧ Maps.Tidy D ∧ Maps.size D = q.length ∧ ∀ x kl, ok x → keyOf Try.prog kt (kv x) = some kl → Maps.has D kl = decide (x ∈ q) ∧ (x ∈ q → D.atKey kl (.lit (.int .i64 0)) = .lit (.int .i64 ((Rg.idx q x + off : Nat) : Int)))
section
variable {α : Type} [DecidableEq α] {kt mt : TypeId} {kv : α → Value} {ok : α → Prop} {off : Nat} {w w' : World} {b : Nat} {q : List α} {x : α}
theorem MapK.made (w : World) : MapK kt kv ok off (w.alloc (.map #[] 0)) w.heap.size ([] : List α) :=
  ⟨.map [], World.ownsMap_made _ _ _ _, Maps.tidy_empty, rfl, fun x kl _ _ => ⟨by simp [Maps.has_eq], fun h => by simp at h⟩⟩
theorem MapK.kept {row : Option Nat} (h : MapK kt kv ok off w b q) (hg : w.grownBy w' row) (hne : some b ≠ row) : MapK kt kv ok off w' b q := by
  obtain ⟨D, h1, h2, h3⟩ := h
  exact ⟨D, h1.kept hg hne, h2, h3⟩
theorem MapK.lt (h : MapK kt kv ok off w b q) : b < w.heap.size := by
  obtain ⟨D, h1, _⟩ := h
  exact h1.lt
theorem MapK.keep (h : MapK kt kv ok off w b q) (hb : Below w.heap.size w w') : MapK kt kv ok off w' b q := by
  have hl := h.lt
  obtain ⟨D, ⟨es, clock, he, h1⟩, h2, h3⟩ := h
  exact ⟨D, ⟨es, clock, by rw [hb.block b hl]; exact he, h1⟩, h2, h3⟩
theorem MapK.kt_ {bad : Obj → Prop} (h : MapK kt kv ok off w b q) (hk : Kt bad w w') (hb : ∀ es cl, ¬ bad (.map es cl)) : MapK kt kv ok off w' b q := by
  obtain ⟨D, ⟨es, clock, he, h1⟩, h2, h3⟩ := h
  exact ⟨D, ⟨es, clock, hk.blk _ _ he (hb _ _), h1⟩, h2, h3⟩
theorem MapK.isM_ (h : MapK kt kv ok off w b q) : ∀ (g : Nat) (o : Obj), some b = some g → w.heap[g]? = some o → isM o := by
  intro g o hg ho
  injection hg with hg
  subst hg
  obtain ⟨D, ⟨es, clock, he, h1⟩, h2, h3⟩ := h
  rw [he] at ho
  exact ⟨_, _, (Option.some.inj ho).symm⟩
set_option maxRecDepth 100000 in
theorem MapK.at_ (h : MapK kt kv ok off w b q) (hx : ok x) (K : KeyKind kt mt kv ok) (hz : (zeroValue 3).run Try.prog w = .ok (.int .i64 0) w) :
    ∃ v, (Instr.lookup mt (.map (some b)) (kv x) true).run Try.prog w = .ok (.tuple #[.int .i64 v, .bool (decide (x ∈ q))]) w ∧ (x ∈ q → v = ((Rg.idx q x + off : Nat) : Int)) := by
  obtain ⟨D, h1, h2, h2', h3⟩ := h
  obtain ⟨kl, hkl⟩ := K.ex x hx
  obtain ⟨v, ps, hrun, hv⟩ := h1.look_ok K.keyed K.map hz (plainElem_int Try.underlying3 (by decide)) hkl
  obtain ⟨y, rfl, hy, _⟩ := plainElem_int_inv Try.underlying3 hv
  rw [(h3 x kl hx hkl).1] at hrun
  refine ⟨y, hrun, fun hm => ?_⟩
  have h4 := congrArg Prod.fst hy
  have h5 : DataW.lit (Lit.int IntKind.i64 ((Rg.idx q x + off : Nat) : Int)) = (.lit (.int .i64 y) : DataW Unit) := ((h3 x kl hx hkl).2 hm).symm.trans h4
  injection h5 with h5
  injection h5 with _ h5
  exact h5.symm
theorem MapK.len (h : MapK kt kv ok off w b q) (K : KeyKind kt mt kv ok) (ty : TypeId) : (Builtin.len_ #[mt] ty #[.map (some b)]).run Try.prog w = .ok (.int .i64 (q.length : Nat)) w := by
  obtain ⟨D, h1, h2, h2', h3⟩ := h
  rw [← h2']
  exact h1.len K.map ty
theorem MapK.put (h : MapK kt kv ok off w b q) (hx : ok x) (K : KeyKind kt mt kv ok) (hnew : x ∉ q) (hql : q.length ≤ 100000) (ho : off ≤ 10) :
    ∃ w', (Instr.mapUpdate mt (.map (some b)) (kv x) (.int .i64 ((q.length + off : Nat) : Int))).run Try.prog w = .ok () w' ∧ MapK kt kv ok off w' b (q ++ [x]) ∧ w.grownBy w' (some b) := by
  obtain ⟨D, h1, h2, h2', h3⟩ := h
  obtain ⟨kl, hkl⟩ := K.ex x hx
  have hwf : (Lit.int .i64 ((q.length + off : Nat) : Int)).wf = true := wf_small (by omega) (by omega)
  have hk := K.keyed.key hkl
  obtain ⟨w', hrun, r1, r2⟩ := h1.update K.keyed K.map (by unfold maxLen; omega) hkl (plainElem_int Try.underlying3 hwf)
  have hh : Maps.has D kl = false := by rw [(h3 x kl hx hkl).1]; simp [hnew]
  refine ⟨w', hrun, ⟨_, by simpa using r1, h2.put hk _, by rw [Maps.size_put h2, hh, h2']; simp, fun y yl hy hyl => ?_⟩, r2⟩
  by_cases e : y = x
  · subst e
    obtain rfl : yl = kl := Option.some.inj (hyl.symm.trans hkl)
    refine ⟨by rw [Maps.has_put_same h2.isMap hk]; simp, fun _ => ?_⟩
    rw [Maps.atKey_put_same h2.isMap hk, Rg.idx_new hnew]; simp
  · have hne : yl ≠ kl := fun e2 => e (K.inj y x hy hx (K.keyed.inj hyl (e2 ▸ hkl)))
    refine ⟨by rw [Maps.has_put_other hne, (h3 y yl hy hyl).1]; simp [e], fun hm => ?_⟩
    have hm' : y ∈ q := by simpa [e] using hm
    rw [Maps.atKey_put_other hne, (h3 y yl hy hyl).2 hm', Rg.idx_app hm']
end
/-! ### keys that are ints -/
def Wfi (v : Int) : Prop := (Lit.int .i64 v).wf = true
theorem int_kind : KeyKind 3 77 (Value.int .i64) Wfi :=
  ⟨Try.underlying77, Maps.int_keyed Try.underlying3, fun _ hx => ⟨_, Maps.keyOf_int_mk Try.underlying3 hx⟩, fun _ _ _ _ h => by injection h⟩
abbrev NumM (w : World) (b : Nat) (q : List Int) : Prop := MapK 3 (Value.int .i64) Wfi 1 w b q
end Go.Proofs.Ytaoebjabdejpoaa
