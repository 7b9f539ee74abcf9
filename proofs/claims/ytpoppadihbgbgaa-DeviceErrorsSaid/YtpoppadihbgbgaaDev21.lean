/- Devices: gate. -/
import Derived.Test.YtpoppadihbgbgaaDev20
namespace Go.Proofs.Ytpoppadihbgbgaa
open Go.RowKit

/-- what gives a device -/
def DevV (y : Dv) (w : World) (r : Ending) (w' : World) : Prop := (∃ A c B d C e, r = .returned ((Value.agg #[Value.int IntKind.i64 (Dv.I y), Value.int IntKind.i64 (Dv.S y), Value.slice A (Dv.nx y).length c, Value.slice B (Dv.out y).length d, Value.int IntKind.i64 (Dv.st y), Value.bool (Dv.rdy y), Value.slice C (Dv.step y).length e, Value.int IntKind.i64 (Dv.rs y), Value.int IntKind.i64 (Dv.lost y), Value.int IntKind.i64 (Dv.wrong y), Value.int IntKind.i64 (Dv.crash y), Value.int IntKind.u64 (Dv.seed y), Value.int IntKind.i64 (Dv.steps y), Value.int IntKind.i64 (Dv.resets y), Value.int IntKind.i64 (Dv.time y)])) ∧ RdU w' w.heap.size A B C y) ∧ Below w.heap.size w w'
theorem new_g (l r c : Int) (hv : validD (gX l r c) = 0) : neX (gX l r c) = gX l r c ∧ neE (gX l r c) = 0 := ⟨if_pos hv, hv⟩
set_option maxRecDepth 100000 in
set_option maxHeartbeats 4000000 in
theorem gate_v (l r c : Int) (hv : validD (gX l r c) = 0) (w : World) : Calls Try.prog 29 #[.agg #[.int .i64 l, .int .i64 r, .int .i64 c]] w (DevV (gX l r c) w) := by
  have HE := Lib.hid (new_g l r c hv)
  clear hv
  go_enter Try.func29, Try.ntmps29
  go_upto_region 1 with fail
  obtain ⟨z, hz⟩ : ∃ z : Array Value, z = #[Value.int IntKind.i64 0, Value.int IntKind.i64 0, Value.slice none 0 0, Value.slice none 0 0,
          Value.int IntKind.i64 0, Value.bool false, Value.slice none 0 0, Value.int IntKind.i64 0,
          Value.int IntKind.i64 0, Value.int IntKind.i64 0, Value.int IntKind.i64 0, Value.int IntKind.u64 0,
          Value.int IntKind.i64 0, Value.int IntKind.i64 0, Value.int IntKind.i64 0] := ⟨_, rfl⟩
  rw [← hz]
  have hzs : z.size = 15 := by rw [hz]; rfl
  clear hz
  generalize hwz : World.alloc _ _ = wz
  have HZ : Hid (wz.heap[w.heap.size + 1]? = some (.cells z 32)) := Lib.hid (by rw [← hwz, ← size_alloc w (.cells #[.int .i64 l, .int .i64 r, .int .i64 c] 29)]; exact Go.heap_alloc_new _ _)
  have f0 : wz.cell? ⟨w.heap.size, 0, none⟩ = some (.int .i64 l) := by rw [← hwz]; simp
  have f1 : wz.cell? ⟨w.heap.size, 1, none⟩ = some (.int .i64 r) := by rw [← hwz]; simp
  have f2 : wz.cell? ⟨w.heap.size, 2, none⟩ = some (.int .i64 c) := by rw [← hwz]; simp
  have hbel : Below w.heap.size w wz := by rw [← hwz]; exact ((Below.refl _ _).alloc (Nat.le_refl _) _).alloc (by rw [size_alloc]; omega) _
  have hlt : w.heap.size + 1 < wz.heap.size := by rw [← hwz, size_alloc, size_alloc]; omega
  clear hwz
  have hlt0 : w.heap.size < wz.heap.size := by omega
  go_upto_region 2 with fail
  generalize hw7 : World.alloc _ _ = w7
  have hb7 : Below wz.heap.size wz w7 := by
    rw [← hw7]
    refine Below.alloc (Below.alloc (Below.alloc (Below.alloc (Below.alloc (Below.alloc (Below.alloc (Below.refl _ _) ?_ _) ?_ _) ?_ _) ?_ _) ?_ _) ?_ _) ?_ _ <;> first | exact Nat.le_refl _ | (simp only [size_alloc]; omega)
  have HA : RdM .i64 w7 (some ⟨wz.heap.size + 1 + 1, 0, none⟩) [[1, 0], [1, 0]] := rdm2 (B := some ⟨wz.heap.size, 0, none⟩) (C := some ⟨wz.heap.size + 1, 0, none⟩) (xs := [1, 0]) (ys := [1, 0]) (c := 2) (d := 2) (by rw [← hw7]; clear hw7; go_simp) (by rw [← hw7]; clear hw7; go_simp) (rd2 (by rw [← hw7]; clear hw7; go_simp) (by rw [← hw7]; clear hw7; go_simp)) (rd2 (by rw [← hw7]; clear hw7; go_simp) (by rw [← hw7]; clear hw7; go_simp))
  have HB : RdM .i64 w7 (some ⟨wz.heap.size + 1 + 1 + 1 + 1 + 1, 0, none⟩) [[1, 0], [1, 2]] := rdm2 (B := some ⟨wz.heap.size + 1 + 1 + 1, 0, none⟩) (C := some ⟨wz.heap.size + 1 + 1 + 1 + 1, 0, none⟩) (xs := [1, 0]) (ys := [1, 2]) (c := 2) (d := 2) (by rw [← hw7]; clear hw7; go_simp) (by rw [← hw7]; clear hw7; go_simp) (rd2 (by rw [← hw7]; clear hw7; go_simp) (by rw [← hw7]; clear hw7; go_simp)) (rd2 (by rw [← hw7]; clear hw7; go_simp) (by rw [← hw7]; clear hw7; go_simp))
  have m0 : w7.cell? ⟨wz.heap.size + 1 + 1 + 1 + 1 + 1 + 1, 0, none⟩ = some (.int .i64 2) := by rw [← hw7]; clear hw7; go_simp
  have m1 : w7.cell? ⟨wz.heap.size + 1 + 1 + 1 + 1 + 1 + 1, 1, none⟩ = some (.int .i64 0) := by rw [← hw7]; clear hw7; go_simp
  have m2 : w7.cell? ⟨wz.heap.size + 1 + 1 + 1 + 1 + 1 + 1, 2, none⟩ = some (.slice (some ⟨wz.heap.size + 1 + 1, 0, none⟩) 2 2) := by rw [← hw7]; clear hw7; go_simp
  have m3 : w7.cell? ⟨wz.heap.size + 1 + 1 + 1 + 1 + 1 + 1, 3, none⟩ = some (.slice (some ⟨wz.heap.size + 1 + 1 + 1 + 1 + 1, 0, none⟩) 2 2) := by rw [← hw7]; clear hw7; go_simp
  have hs7 : w.heap.size < w7.heap.size := Nat.lt_of_lt_of_le hlt0 hb7.size
  have hs8 : wz.heap.size + 1 + 1 + 1 + 1 + 1 + 1 < w7.heap.size := by rw [← hw7]; simp only [size_alloc]; omega
  have g0 := keep_cell hb7 f0
  have g1 := keep_cell hb7 f1
  have g2 := keep_cell hb7 f2
  clear hw7 f0 f1 f2
  go_wp2_with fail
  have hb8 : Below wz.heap.size wz (w7.alloc (.cells #[.int .i64 5, .int .i64 3] 3)) := hb7.alloc hb7.size _
  have hbq : Below w7.heap.size w7 (w7.alloc (.cells #[.int .i64 5, .int .i64 3] 3)) := (Below.refl _ _).alloc (Nat.le_refl _) _
  have HC : Rd (w7.alloc (.cells #[.int .i64 5, .int .i64 3] 3)) (some ⟨w7.heap.size, 0, none⟩) [5, 3] := rd2 (by go_simp) (by go_simp)
  clear g0 g1 g2 m0 m1 m2 m3
  refine (New_u (gX l r c) _ _ _ 2 2 2 _ ⟨HA.keep hbq, HB.keep hbq, HC⟩).mono ?_
  rintro u w9 ⟨⟨A2, c2, B2, d2, C2, e2, rfl, hm⟩, hb⟩
  rw [HE.out.1] at hm ⊢
  rw [HE.out.2]
  have hb9 := below_seq hb8 hb
  have HZ9 := Lib.hid ((hb9.block _ hlt).trans HZ.out)
  have hbel9 := below_seq hbel hb9
  have hlt9 := Nat.lt_of_lt_of_le hlt hb9.size
  have HM := Lib.hid (hm.mono (show w.heap.size + 2 ≤ _ by rw [size_alloc]; have := hb7.size; omega))
  clear hm hb hb8 hb9 HA HB HC HZ hbel hlt hlt0
  clear hbq hs7 hs8 hb7
  go_upto_region 3 with fail
  generalize hw10 : World.alloc _ _ = w10
  have HX : Hid (RowD w10 w9.heap.size 32 (gX l r c) A2 c2 B2 d2 C2 e2) := Lib.hid (by rw [← hw10]; exact Go.heap_alloc_new _ _)
  have hba : Below w9.heap.size w9 w10 := by rw [← hw10]; exact (Below.refl _ _).alloc (Nat.le_refl _) _
  have HZ := Lib.hid ((hba.block _ hlt9).trans HZ9.out)
  have hbel := below_seq hbel9 hba
  clear hw10
  go_wp2_with (first | (refine wpList_load_row rfl 32 _ rfl w9.heap.size rfl 32 _ (0, 0) _ HX.out Try.underlying32 rfl (by kernel_rfl) ?_) | (refine wpList_store_row rfl 32 _ _ rfl (w.heap.size + 1) _ rfl rfl 32 z HZ.out (by kernel_rfl) hzs (dc_one _ _ _ _ _ _ _) ?_))
  have hbz := belowRow hbel (Nat.le_succ w.heap.size) (#[Value.int IntKind.i64 (Dv.I (gX l r c)), Value.int IntKind.i64 (Dv.S (gX l r c)), Value.slice A2 (Dv.nx (gX l r c)).length c2, Value.slice B2 (Dv.out (gX l r c)).length d2, Value.int IntKind.i64 (Dv.st (gX l r c)), Value.bool (Dv.rdy (gX l r c)), Value.slice C2 (Dv.step (gX l r c)).length e2, Value.int IntKind.i64 (Dv.rs (gX l r c)), Value.int IntKind.i64 (Dv.lost (gX l r c)), Value.int IntKind.i64 (Dv.wrong (gX l r c)), Value.int IntKind.i64 (Dv.crash (gX l r c)), Value.int IntKind.u64 (Dv.seed (gX l r c)), Value.int IntKind.i64 (Dv.steps (gX l r c)), Value.int IntKind.i64 (Dv.resets (gX l r c)), Value.int IntKind.i64 (Dv.time (gX l r c))])
  refine ret_d1 (RowD.put HZ.out (gX l r c) A2 c2 B2 d2 C2 e2) rfl rfl rfl ⟨⟨A2, c2, B2, d2, C2, e2, rfl, ?_⟩, hbz⟩
  exact ((HM.out.keep hba).row (by omega) _).mono (by omega)
end Go.Proofs.Ytpoppadihbgbgaa
