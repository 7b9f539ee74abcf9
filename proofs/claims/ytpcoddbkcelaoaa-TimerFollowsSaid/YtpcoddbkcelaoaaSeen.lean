/- The code's set of the configurations that it has seen: a map from configurations to bools. -/
import Derived.Test.YtpcoddbkcelaoaaKey
namespace Go.Proofs.Ytpcoddbkcelaoaa
open Go.RowKit

/-- the block b is a map of at most n entries: true at the list's configurations, not there at others -/
def SeenB (w : World) (b n N T : Nat) (q : List Tm.Cfg) : Prop :=
  ∃ D : DataW Unit, w.ownsMap Try.prog 66 (plainElem Try.prog 4) b n D ∧ Maps.IsMap D ∧ ∀ c, Tm.CfgOk N T c → D.atKey (keyC c) (.lit (.bool false)) = .lit (.bool (decide (c ∈ q)))
section
variable {w w' : World} {b n N T : Nat} {q : List Tm.Cfg} {c : Tm.Cfg}
theorem SeenB.made (w : World) (N T : Nat) : SeenB (w.alloc (.map #[] 0)) w.heap.size 0 N T [] :=
  ⟨.map [], World.ownsMap_made _ _ _ _, ⟨_, rfl⟩, fun c _ => by simp [DataW.atKey]⟩
theorem SeenB.kept {row : Option Nat} (h : SeenB w b n N T q) (hg : w.grownBy w' row) (hne : some b ≠ row) : SeenB w' b n N T q := by
  obtain ⟨D, h1, h2, h3⟩ := h
  exact ⟨D, h1.kept hg hne, h2, h3⟩
theorem SeenB.lt (h : SeenB w b n N T q) : b < w.heap.size := by
  obtain ⟨D, h1, _⟩ := h
  exact h1.lt
theorem SeenB.keep (h : SeenB w b n N T q) (hb : Below w.heap.size w w') : SeenB w' b n N T q := by
  have hl := h.lt
  obtain ⟨D, ⟨es, clock, he, h1⟩, h2, h3⟩ := h
  exact ⟨D, ⟨es, clock, by rw [hb.block b hl]; exact he, h1⟩, h2, h3⟩
set_option maxRecDepth 100000 in
theorem SeenB.at_ (h : SeenB w b n N T q) (hc : Tm.CfgOk N T c) (hN : N ≤ 128) (hz : (zeroValue 4).run Try.prog w = .ok (.bool false) w) :
    (Instr.lookup 67 (.map (some b)) (.agg (pc c)) false).run Try.prog w = .ok (.bool (decide (c ∈ q))) w := by
  obtain ⟨D, h1, h2, h3⟩ := h
  obtain ⟨v, ps, hrun, hv⟩ := h1.lookup pl_keyed Try.underlying67 hz (plainElem_bool Try.underlying4 false) (keyC_of (c := c) (by have := hc.1; omega))
  rw [h3 c hc] at hv
  have hv' : v = .bool (decide (c ∈ q)) := by
    unfold plainElem at hv
    rw [Try.underlying4] at hv
    cases v <;> simp at hv
    rw [hv.1]
  rw [hrun, hv']
theorem SeenB.put (h : SeenB w b n N T q) (hc : Tm.CfgOk N T c) (hN : N ≤ 128) (hT : T ≤ 4) (hn : n < maxLen) :
    ∃ w', (Instr.mapUpdate 67 (.map (some b)) (.agg (pc c)) (.bool true)).run Try.prog w = .ok () w' ∧ SeenB w' b (n + 1) N T (q ++ [c]) ∧ w.grownBy w' (some b) := by
  obtain ⟨D, h1, h2, h3⟩ := h
  obtain ⟨w', hrun, r1, r2⟩ := h1.update pl_keyed Try.underlying67 hn (keyC_of (c := c) (by have := hc.1; omega)) (plainElem_bool Try.underlying4 true)
  refine ⟨w', hrun, ⟨_, r1, h2.put _ _, fun d hd => ?_⟩, r2⟩
  by_cases e : d = c
  · subst e
    rw [Maps.atKey_put_same h2 (pl_keyed.key (keyC_of (c := d) (by have := hd.1; omega)))]
    simp
  · rw [Maps.atKey_put_other (fun e2 => e (keyC_inj hd hc hN hT e2)), h3 d hd]
    simp [e]
end
/-- the block b is a map of at most n entries: a configuration's place in the list; not there at others -/
def SeenN (w : World) (b n N T : Nat) (q : List Tm.Cfg) : Prop :=
  ∃ D : DataW Unit, w.ownsMap Try.prog 66 (plainElem Try.prog 3) b n D ∧ Maps.IsMap D ∧ ∀ c, Tm.CfgOk N T c → Maps.has D (keyC c) = decide (c ∈ q) ∧ (c ∈ q → D.atKey (keyC c) (.lit (.int .i64 0)) = .lit (.int .i64 (Tm.idx q c : Nat)))
section
variable {w w' : World} {b n N T : Nat} {q : List Tm.Cfg} {c : Tm.Cfg}
theorem SeenN.made (w : World) (N T : Nat) : SeenN (w.alloc (.map #[] 0)) w.heap.size 0 N T [] :=
  ⟨.map [], World.ownsMap_made _ _ _ _, ⟨_, rfl⟩, fun c _ => ⟨by simp [Maps.has_eq], fun h => by simp at h⟩⟩
theorem SeenN.kept {row : Option Nat} (h : SeenN w b n N T q) (hg : w.grownBy w' row) (hne : some b ≠ row) : SeenN w' b n N T q := by
  obtain ⟨D, h1, h2, h3⟩ := h
  exact ⟨D, h1.kept hg hne, h2, h3⟩
theorem SeenN.lt (h : SeenN w b n N T q) : b < w.heap.size := by
  obtain ⟨D, h1, _⟩ := h
  exact h1.lt
theorem SeenN.keep (h : SeenN w b n N T q) (hb : Below w.heap.size w w') : SeenN w' b n N T q := by
  have hl := h.lt
  obtain ⟨D, ⟨es, clock, he, h1⟩, h2, h3⟩ := h
  exact ⟨D, ⟨es, clock, by rw [hb.block b hl]; exact he, h1⟩, h2, h3⟩
set_option maxRecDepth 100000 in
theorem SeenN.at_ (h : SeenN w b n N T q) (hc : Tm.CfgOk N T c) (hN : N ≤ 128) (hz : (zeroValue 3).run Try.prog w = .ok (.int .i64 0) w) :
    ∃ v, (Instr.lookup 94 (.map (some b)) (.agg (pc c)) true).run Try.prog w = .ok (.tuple #[.int .i64 v, .bool (decide (c ∈ q))]) w ∧ (c ∈ q → v = (Tm.idx q c : Nat)) := by
  obtain ⟨D, h1, h2, h3⟩ := h
  obtain ⟨v, ps, hrun, hv⟩ := h1.look_ok pl_keyed Try.underlying94 hz (plainElem_int Try.underlying3 (by decide)) (keyC_of (c := c) (by have := hc.1; omega))
  obtain ⟨x, rfl, hx, _⟩ := plainElem_int_inv Try.underlying3 hv
  rw [(h3 c hc).1] at hrun
  refine ⟨x, hrun, fun hm => ?_⟩
  have h4 := congrArg Prod.fst hx
  have h5 : DataW.lit (Lit.int IntKind.i64 (Tm.idx q c : Nat)) = (.lit (.int .i64 x) : DataW Unit) := ((h3 c hc).2 hm).symm.trans h4
  injection h5 with h5
  injection h5 with _ h5
  exact h5.symm
theorem SeenN.put (h : SeenN w b n N T q) (hc : Tm.CfgOk N T c) (hN : N ≤ 128) (hT : T ≤ 4) (hn : n < maxLen) (hnew : c ∉ q) (hql : q.length ≤ 100000) :
    ∃ w', (Instr.mapUpdate 94 (.map (some b)) (.agg (pc c)) (.int .i64 (q.length : Nat))).run Try.prog w = .ok () w' ∧ SeenN w' b (n + 1) N T (q ++ [c]) ∧ w.grownBy w' (some b) := by
  obtain ⟨D, h1, h2, h3⟩ := h
  have hwf : (Lit.int .i64 (q.length : Int)).wf = true := by
    have hmin : IntKind.i64.min = -9223372036854775808 := by kernel_rfl
    have hmax : IntKind.i64.max = 9223372036854775807 := by kernel_rfl
    show (decide (IntKind.i64.min ≤ (q.length : Int)) && decide ((q.length : Int) ≤ IntKind.i64.max)) = true
    rw [hmin, hmax, decide_eq_true (by omega), decide_eq_true (by omega)]; rfl
  obtain ⟨w', hrun, r1, r2⟩ := h1.update pl_keyed Try.underlying94 hn (keyC_of (c := c) (by have := hc.1; omega)) (plainElem_int Try.underlying3 hwf)
  refine ⟨w', hrun, ⟨_, r1, h2.put _ _, fun d hd => ?_⟩, r2⟩
  by_cases e : d = c
  · subst e
    have hk := pl_keyed.key (keyC_of (c := d) (by have := hd.1; omega))
    refine ⟨by rw [Maps.has_put_same h2 hk]; simp, fun _ => ?_⟩
    rw [Maps.atKey_put_same h2 hk]
    have : Tm.idx (q ++ [d]) d = q.length := by unfold Tm.idx; rw [List.idxOf_append, if_neg hnew]; simp
    rw [this]
  · have hne : keyC d ≠ keyC c := fun e2 => e (keyC_inj hd hc hN hT e2)
    refine ⟨by rw [Maps.has_put_other hne, (h3 d hd).1]; simp [e], fun hm => ?_⟩
    have hm' : d ∈ q := by simpa [e] using hm
    rw [Maps.atKey_put_other hne, (h3 d hd).2 hm']
    have : Tm.idx (q ++ [c]) d = Tm.idx q d := by unfold Tm.idx; rw [List.idxOf_append, if_pos hm']
    rw [this]
end
end Go.Proofs.Ytpcoddbkcelaoaa
