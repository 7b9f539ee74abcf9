/- TakeInts of the program. -/
import Derived.Test.YtepeamhoajlniaaTk1
namespace Go.Proofs.Ytepeamhoajlniaa
open Go.RowKit

theorem own_set {w : World} {base e size n : Nat} {v : Value} {xs : List Value} (h : w.ownsRow base e size v n xs) {p : Addr} (hp : p.block < base) (u : Value) : (w.setCell p u).ownsRow base e size v n xs := by
  refine ⟨h.1, ?_⟩
  rcases h.2 with h0 | ⟨g, cap, cur, hv, hg, hh, hr⟩
  · exact .inl h0
  · exact .inr ⟨g, cap, cur, hv, hg, by rw [Below.heap_setCell _ _ _ _ (by omega)]; exact hh, hr⟩
theorem own_drew {w : World} {base e size n : Nat} {v : Value} {xs : List Value} (h : w.ownsRow base e size v n xs) : w.drew.ownsRow base e size v n xs := h
def TakLP (r : Cod.Got (List Int)) (w : World) (e : Ending) (w' : World) : Prop :=
  ∃ B d, e = .returned (.tuple #[.slice B r.val.length d, .int .i64 (r.size : Nat), .int .i64 r.err]) ∧ Rd w' B r.val ∧ r.val.length ≤ 1000000 ∧ Below w.heap.size w w'
namespace Cod
theorem many_len {α : Type} (p : List Nat → Got α) (hp : ∀ b, (p b).err = 0 → 1 ≤ (p b).size ∧ (p b).size ≤ b.length) (n : Nat) (b : List Nat) (h : (many p n b).err = 0) : (many p n b).val.length ≤ (many p n b).size ∧ (many p n b).size ≤ b.length := by
  induction n generalizing b with
  | zero => simp [many]
  | succ n ih =>
    rw [many_succ] at h ⊢
    by_cases h1 : (p b).err = 0
    · rw [if_pos h1] at h ⊢
      by_cases h2 : (many p n (b.drop (p b).size)).err = 0
      · rw [if_pos h2]
        have := ih _ h2
        have := hp b h1
        simp only [List.length_cons, List.length_drop] at *
        omega
      · rw [if_neg h2] at h; exact absurd h h2
    · rw [if_neg h1] at h; exact absurd h h1
theorem lst_size {α : Type} (p : List Nat → Got α) (hp : ∀ b, (p b).err = 0 → 1 ≤ (p b).size ∧ (p b).size ≤ b.length) (b : List Nat) (h : (lst p b).err = 0) : 1 ≤ (lst p b).size ∧ (lst p b).size ≤ b.length ∧ (lst p b).val.length ≤ b.length := by
  unfold lst at h ⊢
  by_cases h1 : (tk b).err = 0
  · rw [if_pos h1] at h ⊢
    by_cases h2 : (tk b).val < 0
    · rw [if_pos h2] at h; cases h
    · rw [if_neg h2] at h ⊢
      simp only at h ⊢
      by_cases h3 : (many p (tk b).val.toNat (b.drop (tk b).size)).err = 0
      · rw [if_pos h3]
        have := many_len p hp _ _ h3
        have := tk_size b h1
        simp only [List.length_drop] at *
        omega
      · rw [if_neg h3] at h; exact absurd h h3
  · rw [if_neg h1] at h; exact absurd h h1
theorem tkL_size (b : List Nat) (h : (tkL b).err = 0) : 1 ≤ (tkL b).size ∧ (tkL b).size ≤ b.length ∧ (tkL b).val.length ≤ b.length := lst_size tk tk_size b h
theorem tkW_size (b : List Nat) (h : (tkW b).err = 0) : 1 ≤ (tkW b).size ∧ (tkW b).size ≤ b.length ∧ (tkW b).val.length ≤ b.length := lst_size tkL (fun b h => ⟨(tkL_size b h).1, (tkL_size b h).2.1⟩) b h
end Cod
set_option maxRecDepth 100000 in
set_option maxHeartbeats 4000000 in
theorem takeInts_p (A : Option Addr) (c : Nat) (bs : List Nat) (w : World) (h : RdB w A c bs) (hlt : ∀ x ∈ bs, x < 256) (hl : bs.length ≤ 1000000) :
    Calls Try.prog 16 #[.slice A bs.length c] w (TakLP (Cod.tkL bs) w) := by
  have hm := h.len
  have hle := h.1
  have hlc := h.2.1
  have hmf : ∀ (fn : Fn) (first cap : Array Value) (w : World), (Instr.makeFunc fn first cap).run Try.prog w = .ok (.func fn first cap) w := fun _ _ _ _ => rfl
  have HC := Lib.hid (fun (g : Nat) (w' : World) (hs : Src w' g A bs.length c 0) (hb : Below w.heap.size w w') (hg : w.heap.size ≤ g) => list_p g A c 0 bs w' w hs h hb hg hlt hl (Nat.zero_le _))
  have HSZ := Lib.hid (Cod.tkL_size bs)
  have HBAD := Lib.hid (Cod.lst_bad Cod.tk bs)
  rw [List.drop_zero] at HC
  have HBAD2 : Hid ((Cod.tkL bs).err ≠ 0 → (Cod.tkL bs).val = [] ∧ (Cod.tkL bs).size = 0) := HBAD
  clear HBAD
  obtain ⟨t, hT⟩ : ∃ t, t = Cod.tkL bs := ⟨_, rfl⟩
  rw [← hT] at HC HSZ HBAD2 ⊢
  obtain ⟨tv, ts, te⟩ := t
  simp only at HSZ HBAD2
  clear h hlt hT
  go_enter_defers Try.func16, Try.ntmps16
  go_wp2_with fail
  refine (HC.out _ _ ?_ ?_ ?_).mono ?_
  · exact src_new3 w A bs.length c _ _
  · exact below_new3 w A bs.length c _ _
  · omega
  rintro e w' (⟨h0, B, d, he, ho, hmv⟩ | ⟨h0, he, k', hmv⟩)
  · simp only at h0 he ho hmv
    have hbx := (bx_new w A bs.length c 32 (.slice none 0 0)).mov hmv (by omega)
    have hbel := hmv.below (below_new3 w A bs.length c _ _) (by omega) (by simp; omega)
    have hsz := HSZ.out h0
    have HS := Lib.hid hmv.src
    obtain ⟨b, hb⟩ : ∃ b, b = w.heap.size := ⟨_, rfl⟩
    have ho' : w'.ownsRow (b + 4) 3 1 (.slice B tv.length d) tv.length (tv.map (.int .i64)) := own_mono ho (by simp; omega)
    rw [← hb] at hbx HS ⊢
    have HB := Lib.hid hbx
    have HBE := Lib.hid hbel
    have HO := Lib.hid ho'
    have hbw : w.heap.size ≤ b := by omega
    have c0 := hbx.c0
    have c1 := hbx.c1
    have c2 := hbx.c2
    have f0 := hbx.f0
    have f1 := hbx.f1
    have f2 := hbx.f2
    have s1 : w'.cell? ⟨b + 1 + 1 + 1, 1, none⟩ = some (.int .i64 ((0 + ts : Nat) : Int)) := HS.out.c1
    clear hbx hbel hmv HC ho ho' HSZ HBAD2
    have HBB := Lib.hid hb
    subst h0 he
    have hN : tv.length ≤ 1000000 := by omega
    have HSZ := Lib.hid hsz
    clear hb hsz
    obtain ⟨N, hNN⟩ : ∃ N, N = tv.length := ⟨_, rfl⟩
    rw [← hNN] at HO hN
    have HN := Lib.hid hNN
    rw [← hNN]
    clear hNN
    go_wp2_with fail
    go_region
    go_wp2_with fail
    change Leaves Try.prog Try.f16 _ _ _ _ _
    refine leaves_cons (f := 36) (args := #[.pointer (some ⟨b, 0, none⟩), .pointer (some ⟨b + 1, 0, none⟩), .pointer (some ⟨b + 1 + 1, 0, none⟩)]) ?_ ?_ ?_
    · simp
    · simp [go_sem]
    refine (idle36 b _).mono ?_
    rintro e u' w'' ⟨rfl, rfl, rfl⟩
    simp [Leaves, settle, results, Try.results16, go_sem, c0, c1, c2]
    have hN2 := HN.out
    subst hN2
    have hw := own_drew (own_set (own_set (own_set (own_set HO.out (p := ⟨b, 0, none⟩) (by simp) (.slice B tv.length d)) (p := ⟨b, 0, none⟩) (by simp) (.slice B tv.length d)) (p := ⟨b + 1, 0, none⟩) (by simp) (.int .i64 (ts : Int))) (p := ⟨b + 1 + 1, 0, none⟩) (by simp) (.int .i64 0))
    exact ⟨B, d, rfl, (own_rd hw (by omega)).2, hN, ((((HBE.out.setCell hbw _).setCell hbw _).setCell (by simp; omega) _).setCell (by simp; omega) _).drew⟩
  · simp only at h0 he
    have hbx := (bx_new w A bs.length c 32 (.slice none 0 0)).mov hmv (by omega)
    have hbel := hmv.below (below_new3 w A bs.length c _ _) (by omega) (by simp; omega)
    obtain ⟨h1, h2⟩ := HBAD2.out h0
    obtain ⟨b, hb⟩ : ∃ b, b = w.heap.size := ⟨_, rfl⟩
    rw [← hb] at hbx ⊢
    have HBE := Lib.hid hbel
    have hbw : w.heap.size ≤ b := by omega
    have c0 := hbx.c0
    have c1 := hbx.c1
    have c2 := hbx.c2
    have f0 := hbx.f0
    have f1 := hbx.f1
    have f2 := hbx.f2
    subst h1 h2 he
    clear hbx hbel hmv HC HSZ HBAD2 h0
    have HBB := Lib.hid hb
    clear hb
    go_wp2_with fail
    change Leaves Try.prog Try.f16 _ _ _ _ _
    refine leaves_cons (f := 36) (args := #[.pointer (some ⟨b, 0, none⟩), .pointer (some ⟨b + 1, 0, none⟩), .pointer (some ⟨b + 1 + 1, 0, none⟩)]) ?_ ?_ ?_
    · simp
    · simp [go_sem]
    refine (catch36 b te _ _ _ [] _ c0 c1 c2 f0 f1 f2).mono ?_
    rintro e u' w'' ⟨rfl, rfl, rfl⟩
    simp [Leaves, settle, results, Try.results16, go_sem, c0, c1, c2]
    exact ⟨none, 0, rfl, RdK.nil, by simp, ((HBE.out.setCell hbw _).setCell (by simp; omega) _).setCell (by simp; omega) _⟩
end Go.Proofs.Ytepeamhoajlniaa
