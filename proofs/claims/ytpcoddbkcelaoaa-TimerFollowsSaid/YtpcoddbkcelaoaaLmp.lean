/- The lamp of the document. -/
import Derived.Test.YtpcoddbkcelaoaaSam
namespace Go.Proofs.Ytpcoddbkcelaoaa
open Go.RowKit

def lampM : Tm.M := ⟨1, 1, 0, [[1, 0], [1, 0]], [[1, 3], [2, 0]], [[(0, 10), (-1, 0)], [(0, 10), (-1, 0)]]⟩
theorem blk_at (w : World) (t : TypeId) (cs : Array Value) {g : Nat} (h : g = w.heap.size) : Blk (w.alloc (.cells cs t)) g t cs := by subst h; exact Blk.new _ _ _
theorem rd_two {w : World} {g : Nat} {t : TypeId} {x y : Int} (h : Blk w g t #[.int .i64 x, .int .i64 y]) : RdK .i64 w (some ⟨g, 0, none⟩) [x, y] := by
  refine ⟨by simp, fun _ => ⟨_, rfl, fun i hi => ?_⟩⟩
  rw [add_off, h.cell]
  rcases i with _ | _ | i
  · rfl
  · rfl
  · simp at hi; omega
theorem rdm_two {w : World} {g g1 g2 : Nat} {t : TypeId} {xs ys : List Int} (h : Blk w g t #[.slice (some ⟨g1, 0, none⟩) 2 2, .slice (some ⟨g2, 0, none⟩) 2 2]) (hx : xs.length = 2) (hy : ys.length = 2) (r1 : RdK .i64 w (some ⟨g1, 0, none⟩) xs) (r2 : RdK .i64 w (some ⟨g2, 0, none⟩) ys) : RdM .i64 w (some ⟨g, 0, none⟩) [xs, ys] := by
  refine ⟨by simp, fun _ => ⟨_, rfl, fun i hi => ?_⟩⟩
  rw [add_off, h.cell]
  rcases i with _ | _ | i
  · exact ⟨_, _, by rw [show [xs, ys].getD 0 [] = xs from rfl, hx]; rfl, r1⟩
  · exact ⟨_, _, by rw [show [xs, ys].getD 1 [] = ys from rfl, hy]; rfl, r2⟩
  · simp at hi; omega
theorem rd2_two {w : World} {g : Nat} {t : TypeId} {x y z u : Int} (h : Blk w g t #[.int .i64 x, .int .i64 y, .int .i64 z, .int .i64 u]) : Rd2 w (some ⟨g, 0, none⟩) [(x, y), (z, u)] := by
  refine ⟨by simp, fun _ => ⟨_, rfl, fun i hi => ?_⟩⟩
  rw [add_off, add_off, h.cell, h.cell]
  rcases i with _ | _ | i
  · exact ⟨rfl, rfl⟩
  · exact ⟨rfl, rfl⟩
  · simp at hi; omega
theorem rdp_two {w : World} {g g1 g2 : Nat} {t : TypeId} {xs ys : List (Int × Int)} (h : Blk w g t #[.slice (some ⟨g1, 0, none⟩) 2 2, .slice (some ⟨g2, 0, none⟩) 2 2]) (hx : xs.length = 2) (hy : ys.length = 2) (r1 : Rd2 w (some ⟨g1, 0, none⟩) xs) (r2 : Rd2 w (some ⟨g2, 0, none⟩) ys) : RdP w (some ⟨g, 0, none⟩) [xs, ys] := by
  refine ⟨by simp, fun _ => ⟨_, rfl, fun i hi => ?_⟩⟩
  rw [add_off, h.cell]
  rcases i with _ | _ | i
  · exact ⟨_, _, by rw [show [xs, ys].getD 0 [] = xs from rfl, hx]; rfl, r1⟩
  · exact ⟨_, _, by rw [show [xs, ys].getD 1 [] = ys from rfl, hy]; rfl, r2⟩
  · simp at hi; omega
set_option maxRecDepth 100000 in
set_option maxHeartbeats 1600000 in
theorem lamp_r (w : World) : Calls Try.prog 24 #[] w fun r w' => (∃ A B C c d e, r = .returned (.agg #[.int .i64 1, .int .i64 1, .int .i64 0, .slice A 2 c, .slice B 2 d, .slice C 2 e]) ∧ RdT w' A B C lampM) ∧ Below w.heap.size w w' := by
  go_enter Try.func24, Try.ntmps24
  go_wp2_with fail
  refine ret_c1 (g := w.heap.size) ((((((((((Blk.new w _ _).alloc _).alloc _).alloc _).alloc _).alloc _).alloc _).alloc _).alloc _).alloc _) rfl rfl Try.underlying25 rfl (by kernel_rfl) rfl ⟨⟨_, _, _, 2, 2, 2, rfl, ?_⟩, ?_⟩
  · refine ⟨rdm_two (((((((blk_at _ _ _ (by simp)).alloc _).alloc _).alloc _).alloc _).alloc _).alloc _) rfl rfl (rd_two (((((((((blk_at _ _ _ (by simp)).alloc _).alloc _).alloc _).alloc _).alloc _).alloc _).alloc _).alloc _)) (rd_two ((((((((blk_at _ _ _ (by simp)).alloc _).alloc _).alloc _).alloc _).alloc _).alloc _).alloc _)), rdm_two ((((blk_at _ _ _ (by simp)).alloc _).alloc _).alloc _) rfl rfl (rd_two ((((((blk_at _ _ _ (by simp)).alloc _).alloc _).alloc _).alloc _).alloc _)) (rd_two (((((blk_at _ _ _ (by simp)).alloc _).alloc _).alloc _).alloc _)), ?_⟩
    exact rdp_two (blk_at _ _ _ (by simp)) rfl rfl (rd2_two (((blk_at _ _ _ (by simp)).alloc _).alloc _)) (rd2_two ((blk_at _ _ _ (by simp)).alloc _))
  · exact (((((((((((Below.refl _ _).alloc (by simp; try omega) _).alloc (by simp; try omega) _).alloc (by simp; try omega) _).alloc (by simp; try omega) _).alloc (by simp; try omega) _).alloc (by simp; try omega) _).alloc (by simp; try omega) _).alloc (by simp; try omega) _).alloc (by simp; try omega) _).alloc (by simp; try omega) _)
end Go.Proofs.Ytpcoddbkcelaoaa
