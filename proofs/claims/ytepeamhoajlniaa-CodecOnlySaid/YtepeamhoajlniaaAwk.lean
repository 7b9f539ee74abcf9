/- The examples of chapter 05 hold (awake). -/
import Derived.Test.YtepeamhoajlniaaSw
import Derived.Lib.SlBytesConst
namespace Go.Proofs.Ytepeamhoajlniaa
open Go.RowKit

namespace Cod
theorem ex1 : tk [128, 1, 9] = ⟨64, 2, 0⟩ := by rfl
theorem ex2 : tk [128, 0] = ⟨0, 0, 5⟩ := by rfl
theorem ex3 : tk [128] = ⟨0, 0, 4⟩ := by rfl
theorem ex4 : tkL [2, 2, 1, 5] = ⟨[1], 2, 0⟩ := by rfl
theorem ex5 : tkW [2, 0, 1, 0] = ⟨[[]], 2, 0⟩ := by rfl
theorem ex6 : put (-1) = [1] := by show enc 1 = [1]; exact enc_lo (by omega)
theorem ex7 : put 64 = [128, 1] := by show enc 128 = [128, 1]; rw [enc_hi (by omega), enc_lo (by omega)]
theorem ex8 : sum [49, 50, 51, 52, 53, 54, 55, 56, 57] = 3421780262 := by decide +kernel
end Cod
theorem rdb_lit {w : World} (bs : List Nat) (cs : Array Value) (n : Nat) (hc : cs.toList = byv bs) (hn : n = bs.length) (hl : bs.length ≤ 1000) : RdB (w.alloc (.cells cs 5)) (some ⟨w.heap.size, 0, none⟩) n bs := by
  subst hn
  have h := World.ownsRow_lit (e := 5) (size := 1) w cs bs.length (Nat.le_refl w.heap.size) (by unfold maxLen; omega) (by rw [← Array.length_toList, hc, byv_len]; omega)
  rw [hc] at h
  exact (own_rdb h (by omega)).2
theorem rdb_mark {w : World} (bs : List Nat) (cs : Array Value) (n : Nat) (fr : Nat × Nat) (hc : cs.toList = byv bs) (hn : n = bs.length) (hl : bs.length ≤ 1000) : RdB (w.alloc (.cells cs 5 fr)) (some ⟨w.heap.size, 0, none⟩) n bs := by
  refine ⟨by omega, by omega, fun _ => ⟨_, rfl, fun i hi => ?_⟩⟩
  have e : (⟨w.heap.size, 0, none⟩ : Addr).add i = ⟨w.heap.size, i, none⟩ := by unfold Addr.add; split <;> simp_all
  rw [e, cell_of_row _ _ i _ _ _ (heap_alloc_new w _), ← Array.getElem?_toList, hc]
  unfold byv
  rw [List.getElem?_map, List.getElem?_eq_getElem hi, List.getD_eq_getElem?_getD, List.getElem?_eq_getElem hi]
  rfl
theorem rd_lit1 (w : World) (x : Int) : Rd (w.alloc (.cells #[.int .i64 x] 3)) (some ⟨w.heap.size, 0, none⟩) [x] := by
  refine ⟨by simp, fun _ => ⟨_, rfl, fun i hi => ?_⟩⟩
  have : i = 0 := by simpa using hi
  subst this
  simp [Addr.add]
section
variable (w : World)
theorem aw1 : Calls Try.prog 10 #[.slice (some ⟨w.heap.size, 0, none⟩) 3 3] (w.alloc (.cells #[.int .u8 128, .int .u8 1, .int .u8 9] 5)) fun e w' => e = .returned (.tuple #[.int .i64 64, .int .i64 2, .int .i64 0]) ∧ Below (w.heap.size + 1) (w.alloc (.cells #[.int .u8 128, .int .u8 1, .int .u8 9] 5)) w' := by
  have h := takeInt_p (some ⟨w.heap.size, 0, none⟩) 3 [128, 1, 9] _ (rdb_lit (w := w) [128, 1, 9] #[.int .u8 128, .int .u8 1, .int .u8 9] 3 rfl rfl (by simp)) (by simp)
  refine h.mono fun e w' hh => ?_
  rw [Cod.ex1] at hh
  exact ⟨hh.1, hh.2.mono (by simp)⟩
theorem aw2 : Calls Try.prog 10 #[.slice (some ⟨w.heap.size, 0, none⟩) 2 2] (w.alloc (.cells #[.int .u8 128, .int .u8 0] 5)) fun e w' => e = .returned (.tuple #[.int .i64 0, .int .i64 0, .int .i64 5]) ∧ Below (w.heap.size + 1) (w.alloc (.cells #[.int .u8 128, .int .u8 0] 5)) w' := by
  have h := takeInt_p (some ⟨w.heap.size, 0, none⟩) 2 [128, 0] _ (rdb_lit (w := w) [128, 0] #[.int .u8 128, .int .u8 0] 2 rfl rfl (by simp)) (by simp)
  refine h.mono fun e w' hh => ?_
  rw [Cod.ex2] at hh
  exact ⟨hh.1, hh.2.mono (by simp)⟩
theorem aw3 : Calls Try.prog 10 #[.slice (some ⟨w.heap.size, 0, none⟩) 1 1] (w.alloc (.cells #[.int .u8 128] 5)) fun e w' => e = .returned (.tuple #[.int .i64 0, .int .i64 0, .int .i64 4]) ∧ Below (w.heap.size + 1) (w.alloc (.cells #[.int .u8 128] 5)) w' := by
  have h := takeInt_p (some ⟨w.heap.size, 0, none⟩) 1 [128] _ (rdb_lit (w := w) [128] #[.int .u8 128] 1 rfl rfl (by simp)) (by simp)
  refine h.mono fun e w' hh => ?_
  rw [Cod.ex3] at hh
  exact ⟨hh.1, hh.2.mono (by simp)⟩
theorem aw4 : Calls Try.prog 16 #[.slice (some ⟨w.heap.size, 0, none⟩) 4 4] (w.alloc (.cells #[.int .u8 2, .int .u8 2, .int .u8 1, .int .u8 5] 5)) fun e w' => ∃ B d, e = .returned (.tuple #[.slice B 1 d, .int .i64 2, .int .i64 0]) ∧ Rd w' B [1] ∧ Below (w.heap.size + 1) (w.alloc (.cells #[.int .u8 2, .int .u8 2, .int .u8 1, .int .u8 5] 5)) w' := by
  have h := takeInts_p (some ⟨w.heap.size, 0, none⟩) 4 [2, 2, 1, 5] _ (rdb_lit (w := w) [2, 2, 1, 5] #[.int .u8 2, .int .u8 2, .int .u8 1, .int .u8 5] 4 rfl rfl (by simp)) (by simp) (by simp)
  refine h.mono fun e w' hh => ?_
  rw [Cod.ex4] at hh
  obtain ⟨B, d, he, hr, _, hb⟩ := hh
  exact ⟨B, d, he, hr, hb.mono (by simp)⟩
theorem aw5 : Calls Try.prog 18 #[.slice (some ⟨w.heap.size, 0, none⟩) 4 4] (w.alloc (.cells #[.int .u8 2, .int .u8 0, .int .u8 1, .int .u8 0] 5)) fun e w' => ∃ B d, e = .returned (.tuple #[.slice B 1 d, .int .i64 2, .int .i64 0]) ∧ RdM .i64 w' B [[]] ∧ Below (w.heap.size + 1) (w.alloc (.cells #[.int .u8 2, .int .u8 0, .int .u8 1, .int .u8 0] 5)) w' := by
  have h := takeWords_p (some ⟨w.heap.size, 0, none⟩) 4 [2, 0, 1, 0] _ (rdb_lit (w := w) [2, 0, 1, 0] #[.int .u8 2, .int .u8 0, .int .u8 1, .int .u8 0] 4 rfl rfl (by simp)) (by simp) (by simp)
  refine h.mono fun e w' hh => ?_
  rw [Cod.ex5] at hh
  obtain ⟨B, d, he, hr, _, hb⟩ := hh
  exact ⟨B, d, he, hr, hb.mono (by simp)⟩
theorem aw6 : Calls Try.prog 13 #[.int .i64 (-1)] w fun e w' => ∃ B d, e = .returned (.slice B 1 d) ∧ (∀ w2, Below w'.heap.size w' w2 → (convert 22 9 (.slice B 1 d)).run Try.prog w2 = .ok (.string ⟨#[1]⟩) w2) ∧ Below w.heap.size w w' := by
  refine (putInt_p (-1) w (by omega) (by omega)).mono fun e w' hh => ?_
  rw [Cod.ex6] at hh
  obtain ⟨B, d, he, ho, hb⟩ := hh
  exact ⟨B, d, he, fun w2 h2 => run_text (P := Try.prog) 22 5 9 Try.underlying22 Try.underlying5 Try.underlying9 (own_rdb ho (by simp)).2 h2, hb⟩
theorem aw7 : Calls Try.prog 13 #[.int .i64 64] w fun e w' => ∃ B d, e = .returned (.slice B 2 d) ∧ (∀ w2, Below w'.heap.size w' w2 → (convert 22 9 (.slice B 2 d)).run Try.prog w2 = .ok (.string ⟨#[128, 1]⟩) w2) ∧ Below w.heap.size w w' := by
  refine (putInt_p 64 w (by omega) (by omega)).mono fun e w' hh => ?_
  rw [Cod.ex7] at hh
  obtain ⟨B, d, he, ho, hb⟩ := hh
  exact ⟨B, d, he, fun w2 h2 => run_text (P := Try.prog) 22 5 9 Try.underlying22 Try.underlying5 Try.underlying9 (own_rdb ho (by simp)).2 h2, hb⟩
theorem aw8 : Calls Try.prog 29 #[.slice (some ⟨w.heap.size, 0, none⟩) 9 9] (w.alloc (.cells #[.int .u8 49, .int .u8 50, .int .u8 51, .int .u8 52, .int .u8 53, .int .u8 54, .int .u8 55, .int .u8 56, .int .u8 57] 5 (9, 10))) fun e w' => e = .returned (.int .i64 3421780262) ∧ (w.alloc (.cells #[.int .u8 49, .int .u8 50, .int .u8 51, .int .u8 52, .int .u8 53, .int .u8 54, .int .u8 55, .int .u8 56, .int .u8 57] 5 (9, 10))) = w' := by
  have h := sum_p (some ⟨w.heap.size, 0, none⟩) 9 [49, 50, 51, 52, 53, 54, 55, 56, 57] _ (rdb_mark (w := w) [49, 50, 51, 52, 53, 54, 55, 56, 57] #[.int .u8 49, .int .u8 50, .int .u8 51, .int .u8 52, .int .u8 53, .int .u8 54, .int .u8 55, .int .u8 56, .int .u8 57] 9 (9, 10) rfl rfl (by simp)) (by simp)
  rw [Cod.ex8] at h
  exact h
end
theorem same_b {n : Nat} {A B : Option Addr} {c d : Nat} {xs : List Int} {w : World} (hn : xs.length = n) (ha : Rd w A xs) (hb : Rd w B xs) :
    Calls Try.prog 24 #[.slice A n c, .slice B n d] w fun e w' => e = .returned (.bool true) ∧ Below w.heap.size w w' :=
  (same_yes hn ha hb).mono fun _ _ ⟨he, n, hw⟩ => ⟨he, hw ▸ below_drewN' (Below.refl _ _) n⟩
theorem sameWords_b {n : Nat} {A B : Option Addr} {c d : Nat} {xss : List (List Int)} {w : World} (hn : xss.length = n) (ha : RdM .i64 w A xss) (hb : RdM .i64 w B xss) :
    Calls Try.prog 25 #[.slice A n c, .slice B n d] w fun e w' => e = .returned (.bool true) ∧ Below w.heap.size w w' :=
  (sameWords_yes' hn ha hb).mono fun _ _ ⟨he, n, hw⟩ => ⟨he, hw ▸ below_drewN' (Below.refl _ _) n⟩
theorem below_lit {w w' : World} {o : Obj} (h : Below (w.heap.size + 1) (w.alloc o) w') : Below w.heap.size w w' := ((Below.refl w.heap.size w).alloc (Nat.le_refl _) o).trans (h.mono (by omega))
theorem rdm_lit (w : World) : RdM .i64 ((w.alloc (.cells #[] 3)).alloc (.cells #[.slice (some ⟨w.heap.size, 0, none⟩) 0 0] 32)) (some ⟨w.heap.size + 1, 0, none⟩) [[]] := by
  refine ⟨by simp, fun _ => ⟨_, rfl, fun i hi => ?_⟩⟩
  have : i = 0 := by simpa using hi
  subst this
  exact ⟨some ⟨w.heap.size, 0, none⟩, 0, by simp [Addr.add], RdK.nil⟩
set_option maxRecDepth 100000 in
set_option maxHeartbeats 4000000 in
theorem awake_p (w : World) : Calls Try.prog 9 #[] w fun e w' => e = .returned (.bool true) ∧ Below w.heap.size w w' := by
  have hcv := fun (w : World) (C : Array Value) (n c : Nat) => Lib.run_convert_bytes_const (P := Try.prog) w 22 5 C n c Try.underlying22 Try.underlying5
  go_enter Try.func9, Try.ntmps9
  go_wp2_with fail
  refine (aw1 _).mono ?_
  rintro e w1 ⟨rfl, h1⟩
  have b1 := Lib.hid (below_lit h1)
  clear h1
  go_wp2_with fail
  refine (aw2 _).mono ?_
  rintro e w2 ⟨rfl, h1⟩
  have b2 := Lib.hid (below_seq b1.out (below_lit h1))
  clear h1 b1
  go_wp2_with fail
  refine (aw3 _).mono ?_
  rintro e w3 ⟨rfl, h1⟩
  have b3 := Lib.hid (below_seq b2.out (below_lit h1))
  clear h1 b2
  go_wp2_with fail
  refine (aw4 _).mono ?_
  rintro e w4 ⟨B4, d4, rfl, hr4, h1⟩
  have b4 := Lib.hid (below_seq b3.out (below_lit h1))
  have R4 := Lib.hid hr4
  clear h1 b3 hr4
  go_wp2_with fail
  refine (aw5 _).mono ?_
  rintro e w5 ⟨B5, d5, rfl, hr5, h1⟩
  have b5 := Lib.hid (below_seq b4.out (below_lit h1))
  have r4 := Lib.hid (R4.out.keep (below_lit h1))
  have R5 := Lib.hid hr5
  clear h1 b4 hr5 R4
  go_wp2_with fail
  refine (aw6 _).mono ?_
  rintro e w6 ⟨B6, d6, rfl, hc6, h1⟩
  have b6 := Lib.hid (below_seq b5.out h1)
  have q4 := Lib.hid (r4.out.keep h1)
  have q5 := Lib.hid (R5.out.keep h1)
  have k6 := hc6 w6 (Below.refl _ _)
  clear h1 b5 r4 R5 hc6
  go_wp2_with fail
  refine (aw7 _).mono ?_
  rintro e w7 ⟨B7, d7, rfl, hc7, h1⟩
  have b7 := Lib.hid (below_seq b6.out h1)
  have p4 := Lib.hid (q4.out.keep h1)
  have p5 := Lib.hid (q5.out.keep h1)
  have k7 := hc7 w7 (Below.refl _ _)
  clear h1 b6 q4 q5 hc7 k6
  go_wp2_with fail
  refine (same_b (xs := [1]) rfl (p4.out.keep ((Below.refl _ _).alloc (Nat.le_refl _) _)) (rd_lit1 w7 1)).mono ?_
  rintro e w8 ⟨rfl, h1⟩
  have h2 := ((Below.refl w7.heap.size w7).alloc (Nat.le_refl _) (.cells #[.int .i64 1] 3)).trans (h1.mono (by simp))
  have b8 := Lib.hid (below_seq b7.out h2)
  have n5 := Lib.hid (p5.out.keep h2)
  clear h1 b7 p4 p5 k7 h2
  go_wp2_with fail
  refine (sameWords_b (xss := [[]]) rfl (n5.out.keep (((Below.refl _ _).alloc (Nat.le_refl _) _).alloc (by simp) _)) (rdm_lit w8)).mono ?_
  rintro e w9 ⟨rfl, h1⟩
  have h2 := (((Below.refl w8.heap.size w8).alloc (Nat.le_refl _) (.cells #[] 3)).alloc (by simp) (.cells #[.slice (some ⟨w8.heap.size, 0, none⟩) 0 0] 32)).trans (h1.mono (by simp; omega))
  have b9 := Lib.hid (below_seq b8.out h2)
  clear h1 b8 n5 h2
  go_wp2_with fail
  refine (aw8 _).mono ?_
  rintro e w10 ⟨rfl, rfl⟩
  go_wp2_with fail
  go_ret
  exact ⟨rfl, b9.out.alloc b9.out.size _⟩
end Go.Proofs.Ytepeamhoajlniaa
