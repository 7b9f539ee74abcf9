/- The lock of the document. -/
import Derived.Test.YtaoebjabdejpoaaRunR
namespace Go.Proofs.Ytaoebjabdejpoaa
open Go.RowKit

def lockM : Rg.M := ⟨2, 0, [0, 1], [[[⟨1, 0, [0]⟩], [⟨0, 0, []⟩]], [[⟨1, 0, [1]⟩, ⟨1, 0, [1]⟩], [⟨1, 2, [1]⟩, ⟨0, 1, []⟩]]]⟩
theorem ad0 (b i : Nat) : (⟨b, 0, none⟩ : Addr).add i = ⟨b, i, none⟩ := by unfold Addr.add; split <;> simp_all
theorem blk_at (w : World) (t : TypeId) (cs : Array Value) {g : Nat} (h : g = w.heap.size) : Blk (w.alloc (.cells cs t)) g t cs := by subst h; exact Blk.new _ _ _
theorem lit_rd {w : World} {g : Nat} {t : TypeId} {cs : Array Value} (h : Blk w g t cs) (xs : List Int) (hc : cs = (xs.map (fun x => Value.int .i64 x)).toArray) (hl : xs.length ≤ 1000) : Rd w (some ⟨g, 0, none⟩) xs := by
  subst hc
  refine ⟨by omega, fun _ => ⟨_, rfl, fun i hi => ?_⟩⟩
  rw [ad0, h.cell]
  simp [hi]
theorem Rd.nil_ {w : World} {A : Option Addr} : Rd w A [] := ⟨by simp, fun h => absurd h (by simp)⟩
theorem lit_rd2 {w : World} {g : Nat} {t : TypeId} {cs : Array Value} (h : Blk w g t cs) (xs : Rg.Dw) (hc : ∀ i, i < xs.length → cs[i * 2]? = some (.int .i64 (xs.getD i (0, 0)).1) ∧ cs[i * 2 + 1]? = some (.int .i64 (xs.getD i (0, 0)).2)) (hl : xs.length ≤ 1000) : Rd2 w (some ⟨g, 0, none⟩) xs := by
  refine ⟨by omega, fun _ => ⟨_, rfl, fun i hi => ?_⟩⟩
  rw [ad0, ad0, h.cell, h.cell]
  exact hc i hi
theorem lit_t1 {w : World} {g : Nat} {t : TypeId} {x y : Int} {B : Option Addr} {n c : Nat} {zs : List Int} (h : Blk w g t #[.int .i64 x, .int .i64 y, .slice B n c]) (hn : n = zs.length) (r : Rd w B zs) : RdT w (some ⟨g, 0, none⟩) [⟨x, y, zs⟩] := by
  subst hn
  refine ⟨by simp, fun _ => ⟨_, rfl, fun i hi => ?_⟩⟩
  obtain rfl : i = 0 := by simpa using hi
  rw [ad0, ad0, ad0, h.cell, h.cell, h.cell]
  exact ⟨B, c, rfl, rfl, rfl, r⟩
theorem lit_t2 {w : World} {g : Nat} {t : TypeId} {x y x' y' : Int} {B B' : Option Addr} {n c n' c' : Nat} {zs zs' : List Int} (h : Blk w g t #[.int .i64 x, .int .i64 y, .slice B n c, .int .i64 x', .int .i64 y', .slice B' n' c']) (hn : n = zs.length) (hn' : n' = zs'.length) (r : Rd w B zs) (r' : Rd w B' zs') : RdT w (some ⟨g, 0, none⟩) [⟨x, y, zs⟩, ⟨x', y', zs'⟩] := by
  subst hn hn'
  refine ⟨by simp, fun _ => ⟨_, rfl, fun i hi => ?_⟩⟩
  rw [ad0, ad0, ad0, h.cell, h.cell, h.cell]
  rcases i with _ | _ | i
  · exact ⟨B, c, rfl, rfl, rfl, r⟩
  · exact ⟨B', c', rfl, rfl, rfl, r'⟩
  · simp at hi; omega
theorem lit_s2 {α : Type} {R : World → Option Addr → List α → Prop} {w : World} {g : Nat} {t : TypeId} {A B : Option Addr} {n c n' c' : Nat} {xs ys : List α} (h : Blk w g t #[.slice A n c, .slice B n' c']) (hn : n = xs.length) (hn' : n' = ys.length) (r : R w A xs) (r' : R w B ys) : RdS R w (some ⟨g, 0, none⟩) [xs, ys] := by
  subst hn hn'
  refine ⟨by simp, fun _ => ⟨_, rfl, fun i hi => ?_⟩⟩
  rw [ad0, h.cell]
  rcases i with _ | _ | i
  · exact ⟨A, c, rfl, r⟩
  · exact ⟨B, c', rfl, r'⟩
  · simp at hi; omega
set_option maxRecDepth 100000 in
set_option maxHeartbeats 1600000 in
theorem lock_r (w : World) : Calls Try.prog 29 #[] w fun r w' => (∃ A B c d, r = .returned (.agg #[.int .i64 2, .int .i64 0, .slice A 2 c, .slice B 2 d]) ∧ RdA w' A B lockM) ∧ Below w.heap.size w w' := by
  go_enter Try.func29, Try.ntmps29
  go_wp2_with fail
  refine ret_c1 (g := w.heap.size) (((((((((((((Blk.new w _ _).alloc _).alloc _).alloc _).alloc _).alloc _).alloc _).alloc _).alloc _).alloc _).alloc _).alloc _).alloc _) rfl rfl Try.underlying25 rfl (by kernel_rfl) rfl ⟨⟨_, _, 2, 2, rfl, ?_⟩, ?_⟩
  · exact ⟨(lit_rd ((((((((((((blk_at _ _ _ (by simp)).alloc _).alloc _).alloc _).alloc _).alloc _).alloc _).alloc _).alloc _).alloc _).alloc _).alloc _) [0, 1] rfl (by simp)), (lit_s2 (blk_at _ _ _ (by simp)) rfl rfl (lit_s2 ((((((((blk_at _ _ _ (by simp)).alloc _).alloc _).alloc _).alloc _).alloc _).alloc _).alloc _) rfl rfl (lit_t1 ((((((((((blk_at _ _ _ (by simp)).alloc _).alloc _).alloc _).alloc _).alloc _).alloc _).alloc _).alloc _).alloc _) rfl (lit_rd (((((((((((blk_at _ _ _ (by simp)).alloc _).alloc _).alloc _).alloc _).alloc _).alloc _).alloc _).alloc _).alloc _).alloc _) [0] rfl (by simp))) (lit_t1 (((((((((blk_at _ _ _ (by simp)).alloc _).alloc _).alloc _).alloc _).alloc _).alloc _).alloc _).alloc _) rfl Rd.nil_)) (lit_s2 ((blk_at _ _ _ (by simp)).alloc _) rfl rfl (lit_t2 (((((blk_at _ _ _ (by simp)).alloc _).alloc _).alloc _).alloc _) rfl rfl (lit_rd (((((((blk_at _ _ _ (by simp)).alloc _).alloc _).alloc _).alloc _).alloc _).alloc _) [1] rfl (by simp)) (lit_rd ((((((blk_at _ _ _ (by simp)).alloc _).alloc _).alloc _).alloc _).alloc _) [1] rfl (by simp))) (lit_t2 (((blk_at _ _ _ (by simp)).alloc _).alloc _) rfl rfl (lit_rd ((((blk_at _ _ _ (by simp)).alloc _).alloc _).alloc _) [1] rfl (by simp)) Rd.nil_)))⟩
  · exact ((((((((((((((Below.refl _ _).alloc (by simp; try omega) _).alloc (by simp; try omega) _).alloc (by simp; try omega) _).alloc (by simp; try omega) _).alloc (by simp; try omega) _).alloc (by simp; try omega) _).alloc (by simp; try omega) _).alloc (by simp; try omega) _).alloc (by simp; try omega) _).alloc (by simp; try omega) _).alloc (by simp; try omega) _).alloc (by simp; try omega) _).alloc (by simp; try omega) _)
end Go.Proofs.Ytaoebjabdejpoaa
