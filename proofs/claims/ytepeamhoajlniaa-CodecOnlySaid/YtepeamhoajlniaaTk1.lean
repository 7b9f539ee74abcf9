/- TakeInt of the program. -/
import Derived.Test.YtepeamhoajlniaaCat
import Derived.RegionTactic
import Derived.BigRegion
namespace Go.Proofs.Ytepeamhoajlniaa
open Go.RowKit

theorem src_new (w : World) (A : Option Addr) (n c : Nat) : Src (w.alloc (.cells #[.slice A n c, .int .i64 0] 67)) w.heap.size A n c 0 := heap_alloc_new w _
/-- the three results' boxes -/
structure Bx (w : World) (b : Nat) (t : TypeId) (x y z : Value) : Prop where
  b0 : w.heap[b]? = some (.cells #[x] t (0, 0))
  b1 : w.heap[b + 1]? = some (.cells #[y] 3 (0, 0))
  b2 : w.heap[b + 2]? = some (.cells #[z] 24 (0, 0))
section
variable {w w' : World} {b : Nat} {t : TypeId} {x y z : Value}
theorem Bx.c0 (h : Bx w b t x y z) : w.cell? ⟨b, 0, none⟩ = some x := by rw [cell_of_row w b 0 _ _ _ h.b0]; rfl
theorem Bx.c1 (h : Bx w b t x y z) : w.cell? ⟨b + 1, 0, none⟩ = some y := by rw [cell_of_row w (b + 1) 0 _ _ _ h.b1]; rfl
theorem Bx.c2 (h : Bx w b t x y z) : w.cell? ⟨b + 2, 0, none⟩ = some z := by rw [cell_of_row w (b + 2) 0 _ _ _ h.b2]; rfl
theorem Bx.f0 (h : Bx w b t x y z) : w.frozen? ⟨b, 0, none⟩ = false := by unfold World.frozen?; rw [h.b0]; rfl
theorem Bx.f1 (h : Bx w b t x y z) : w.frozen? ⟨b + 1, 0, none⟩ = false := by unfold World.frozen?; rw [h.b1]; rfl
theorem Bx.f2 (h : Bx w b t x y z) : w.frozen? ⟨b + 2, 0, none⟩ = false := by unfold World.frozen?; rw [h.b2]; rfl
theorem Bx.mov {g : Nat} {A : Option Addr} {n c k : Nat} (h : Bx w b t x y z) (m : Mov w w' g A n c k) (hg : b + 3 = g) : Bx w' b t x y z := by
  have hs := m.grown.size
  have lt : ∀ i o, w.heap[i]? = some o → i < w.heap.size := fun i o e => by
    rcases Nat.lt_or_ge i w.heap.size with hl | hl
    · exact hl
    · rw [Array.getElem?_eq_none hl] at e; cases e
  refine ⟨(m.grown.block _ (lt _ _ h.b0) ?_).trans h.b0, (m.grown.block _ (lt _ _ h.b1) ?_).trans h.b1, (m.grown.block _ (lt _ _ h.b2) ?_).trans h.b2⟩ <;> (intro e; injection e; omega)
theorem bx_new (w : World) (A : Option Addr) (n c : Nat) (t : TypeId) (x : Value) : Bx ((((w.alloc (.cells #[x] t)).alloc (.cells #[.int .i64 0] 3)).alloc (.cells #[.int .i64 0] 24)).alloc (.cells #[.slice A n c, .int .i64 0] 67)) w.heap.size t x (.int .i64 0) (.int .i64 0) := by
  refine ⟨?_, ?_, ?_⟩
  · rw [heap_alloc_old (h := by simp; omega), heap_alloc_old (h := by simp; omega), heap_alloc_old (h := by simp)]; exact heap_alloc_new w _
  · rw [heap_alloc_old (h := by simp), heap_alloc_old (h := by simp)]
    have := heap_alloc_new (w.alloc (.cells #[x] t)) (.cells #[.int .i64 0] 3)
    simpa using this
  · rw [heap_alloc_old (h := by simp)]
    have := heap_alloc_new ((w.alloc (.cells #[x] t)).alloc (.cells #[.int .i64 0] 3)) (.cells #[.int .i64 0] 24)
    simpa using this
theorem src_new3 (w : World) (A : Option Addr) (n c : Nat) (t : TypeId) (x : Value) : Src ((((w.alloc (.cells #[x] t)).alloc (.cells #[.int .i64 0] 3)).alloc (.cells #[.int .i64 0] 24)).alloc (.cells #[.slice A n c, .int .i64 0] 67)) (w.heap.size + 1 + 1 + 1) A n c 0 := by
  have := src_new (((w.alloc (.cells #[x] t)).alloc (.cells #[.int .i64 0] 3)).alloc (.cells #[.int .i64 0] 24)) A n c
  simpa using this
theorem below_new3 (w : World) (A : Option Addr) (n c : Nat) (t : TypeId) (x : Value) : Below w.heap.size w ((((w.alloc (.cells #[x] t)).alloc (.cells #[.int .i64 0] 3)).alloc (.cells #[.int .i64 0] 24)).alloc (.cells #[.slice A n c, .int .i64 0] 67)) :=
  ((((Below.refl _ _).alloc (Nat.le_refl _) _).alloc (by simp) _).alloc (by simp; omega) _).alloc (by simp; omega) _
end
def TakP (g : Cod.Got Int) (w : World) (e : Ending) (w' : World) : Prop := e = .returned (.tuple #[.int .i64 g.val, .int .i64 (g.size : Nat), .int .i64 g.err]) ∧ Below w.heap.size w w'
set_option maxRecDepth 100000 in
set_option maxHeartbeats 4000000 in
theorem takeInt_p (A : Option Addr) (c : Nat) (bs : List Nat) (w : World) (h : RdB w A c bs) (hlt : ∀ x ∈ bs, x < 256) :
    Calls Try.prog 10 #[.slice A bs.length c] w (TakP (Cod.tk bs) w) := by
  have hm := h.len
  have hle := h.1
  have hlc := h.2.1
  have hmf : ∀ (fn : Fn) (first cap : Array Value) (w : World), (Instr.makeFunc fn first cap).run Try.prog w = .ok (.func fn first cap) w := fun _ _ _ _ => rfl
  by_cases ht : (Cod.tk bs).err = 0
  · have HC := Lib.hid (fun (g : Nat) (w' : World) (hs : Src w' g A bs.length c 0) (hb : Below w.heap.size w w') => num_ok g A c 0 bs w' hs (h.keep hb) hlt (Nat.zero_le _) ht)
    have HT := Lib.hid ht
    rw [List.drop_zero] at HC
    obtain ⟨t, hT⟩ : ∃ t, t = Cod.tk bs := ⟨_, rfl⟩
    rw [← hT] at HC HT ⊢
    obtain ⟨tv, ts, te⟩ := t
    simp only at HC HT
    clear ht h hlt hT
    go_enter_defers Try.func10, Try.ntmps10
    go_wp2_with fail
    refine (HC.out _ _ ?_ ?_).mono ?_
    · exact src_new3 w A bs.length c _ _
    · exact below_new3 w A bs.length c _ _
    rintro e w' ⟨rfl, hmv⟩
    have hbx := (bx_new w A bs.length c 3 (.int .i64 0)).mov hmv (by omega)
    have hbel := hmv.below (below_new3 w A bs.length c _ _) (by omega) (by simp; omega)
    have HS := Lib.hid hmv.src
    obtain ⟨b, hb⟩ : ∃ b, b = w.heap.size := ⟨_, rfl⟩
    rw [← hb] at hbx HS ⊢
    have HB := Lib.hid hbx
    have HBE := Lib.hid hbel
    have hbw : w.heap.size ≤ b := by omega
    have c0 := hbx.c0
    have c1 := hbx.c1
    have c2 := hbx.c2
    have f0 := hbx.f0
    have f1 := hbx.f1
    have f2 := hbx.f2
    have s1 : w'.cell? ⟨b + 1 + 1 + 1, 1, none⟩ = some (.int .i64 ((0 + ts : Nat) : Int)) := HS.out.c1
    clear hbx hbel hmv HC
    have HBB := Lib.hid hb
    clear hb
    go_wp2_with fail
    go_region
    go_wp2_with fail
    change Leaves Try.prog Try.f10 _ _ _ _ _
    refine leaves_cons (f := 33) (args := #[.pointer (some ⟨b, 0, none⟩), .pointer (some ⟨b + 1, 0, none⟩), .pointer (some ⟨b + 1 + 1, 0, none⟩)]) ?_ ?_ ?_
    · simp
    · simp [go_sem]
    refine (idle33 b _).mono ?_
    rintro e u' w'' ⟨rfl, rfl, rfl⟩
    simp [Leaves, settle, results, Try.results10, go_sem, c0, c1, c2]
    have ht := HT.out
    subst ht
    exact ⟨rfl, ((((HBE.out.setCell hbw _).setCell hbw _).setCell (by simp; omega) _).setCell (by simp; omega) _).drew⟩
  · have HC := Lib.hid (fun (g : Nat) (w' : World) (hs : Src w' g A bs.length c 0) (hb : Below w.heap.size w w') => num_bad g A c 0 bs w' hs (h.keep hb) (Nat.zero_le _) ht)
    have HT := Lib.hid (Cod.tk_bad bs ht)
    rw [List.drop_zero] at HC
    obtain ⟨t, hT⟩ : ∃ t, t = Cod.tk bs := ⟨_, rfl⟩
    rw [← hT] at HC HT ⊢
    obtain ⟨tv, ts, te⟩ := t
    simp only at HC HT
    clear ht h hlt hT
    go_enter_defers Try.func10, Try.ntmps10
    go_wp2_with fail
    refine (HC.out _ _ ?_ ?_).mono ?_
    · exact src_new3 w A bs.length c _ _
    · exact below_new3 w A bs.length c _ _
    rintro e w' ⟨rfl, hmv⟩
    have hbx := (bx_new w A bs.length c 3 (.int .i64 0)).mov hmv (by omega)
    have hbel := hmv.below (below_new3 w A bs.length c _ _) (by omega) (by simp; omega)
    obtain ⟨b, hb⟩ : ∃ b, b = w.heap.size := ⟨_, rfl⟩
    rw [← hb] at hbx ⊢
    have HBE := Lib.hid hbel
    have hbw : w.heap.size ≤ b := by omega
    have c0 := hbx.c0
    have c1 := hbx.c1
    have c2 := hbx.c2
    have f0 := hbx.f0
    have f1 := hbx.f1
    have f2 := hbx.f2
    clear hbx hbel hmv HC
    have HBB := Lib.hid hb
    clear hb
    go_wp2_with fail
    change Leaves Try.prog Try.f10 _ _ _ _ _
    refine leaves_cons (f := 33) (args := #[.pointer (some ⟨b, 0, none⟩), .pointer (some ⟨b + 1, 0, none⟩), .pointer (some ⟨b + 1 + 1, 0, none⟩)]) ?_ ?_ ?_
    · simp
    · simp [go_sem]
    refine (catch33 b te _ _ _ [] _ c0 c1 c2 f0 f1 f2).mono ?_
    rintro e u' w'' ⟨rfl, rfl, rfl⟩
    simp [Leaves, settle, results, Try.results10, go_sem, c0, c1, c2]
    obtain ⟨h1, h2⟩ := HT.out
    subst h1 h2
    exact ⟨rfl, ((HBE.out.setCell hbw _).setCell (by simp; omega) _).setCell (by simp; omega) _⟩
end Go.Proofs.Ytepeamhoajlniaa
