/- The walk of the statement RandomFair. -/
import Derived.Test.YthemmbdhhjelcaaRnd2
import Derived.Test.YthemmbdhhjelcaaLaw04b
namespace Go.Proofs.Ythemmbdhhjelcaa
open Go.RowKit

namespace Rnd
/-- the weights modulo 4 -/
def w4 (xs : List Int) : List Int := xs.map (· % 4)
theorem w4_get (xs : List Int) {j : Nat} (hj : j < xs.length) : (w4 xs).getD j 0 = xs.getD j 0 % 4 := by
  rw [w4, List.getD_eq_getElem?_getD, List.getD_eq_getElem?_getD, List.getElem?_map, List.getElem?_eq_getElem hj]; rfl
theorem w4_take_succ (xs : List Int) {j : Nat} (hj : j < xs.length) : (w4 xs).take (j + 1) = (w4 xs).take j ++ [xs.getD j 0 % 4] := by
  have hl : j < (w4 xs).length := by simpa [w4] using hj
  rw [List.take_succ_eq_append_getElem hl]
  congr 1
  simp [w4, List.getD_eq_getElem?_getD, List.getElem?_eq_getElem hj]
theorem w4_nn (xs : List Int) : ∀ x ∈ w4 xs, 0 ≤ x := by
  intro x hx
  obtain ⟨y, _, rfl⟩ := List.mem_map.1 hx
  exact Int.emod_nonneg _ (by decide)
theorem w4_sum (xs : List Int) : ∀ j, j ≤ xs.length → ((w4 xs).take j).sum ≤ 3 * j ∧ 0 ≤ ((w4 xs).take j).sum
  | 0, _ => by simp
  | j + 1, h => by
    have := w4_sum xs j (by omega)
    rw [w4_take_succ xs (by omega), List.sum_append]
    simp; omega
theorem w4_len (xs : List Int) : (w4 xs).length = xs.length := by simp [w4]
theorem take_sum_succ (xs : List Int) {j : Nat} (hj : j < xs.length) : (xs.take (j + 1)).sum = (xs.take j).sum + xs.getD j 0 := by
  rw [List.take_succ_eq_append_getElem hj, List.sum_append]
  simp [List.getD_eq_getElem?_getD, List.getElem?_eq_getElem hj]
end Rnd

theorem below_pI (s : Nat) (n : Int) (w : World) (m : Nat) (hm : n = m) (hs : s < 18446744073709551616) (hn : 1 ≤ m) (hn2 : m ≤ 2147483648) :
    Calls Try.prog 16 #[.int .u64 s, .int .i64 n] w fun e w' => e = .returned (.tuple #[.int .i64 (Rnd.bel s m).1, .int .u64 (Rnd.bel s m).2, .int .i64 0]) ∧ w = w' := by
  subst hm; exact below_p s m w hs hn hn2
theorem snoc_at (ys : List Int) (n : Nat) (h : ys.length = n) (y : Value) : (ys.map (Value.int .i64) ++ [y])[n]? = some y := by
  subst h
  rw [List.getElem?_append_right (by simp)]; simp
set_option maxRecDepth 100000 in
set_option maxHeartbeats 4000000 in
theorem randomFair_walk (w : World) (a0 a1 : Int) (A : Option Addr) (c : Nat) (xs : List Int) (w0 : (Lit.int .u64 a0).wf = true) (w1 : (Lit.int .u8 a1).wf = true) (hr : RdK .u8 w A xs) (hw : Wf .u8 xs) :
    Calls Try.prog 6 #[.int .u64 a0, .int .u8 a1, .slice A xs.length c] w fun e w' => e = .returned (.bool true) ∧ Below w.heap.size w w' := by
  obtain ⟨s, rfl, hs⟩ := u64_nat w0
  have hb1 := bounds_u8 w1
  have hm := hr.1
  by_cases h : 60 < xs.length
  · have h1 : (60 : Int) < xs.length := by omega
    go_enter Try.func6, Try.ntmps6
    go_wp2_with (go_at_call 18; refine (awake4 _).mono ?_; rintro e w' ⟨rfl, hb⟩)
    go_ret
    exact ⟨rfl, hb⟩
  · have h1 : ¬ (60 : Int) < xs.length := by omega
    obtain ⟨k, hk⟩ : ∃ k : Nat, a1 % 60 = k := ⟨(a1 % 60).toNat, by omega⟩
    have hk60 : k < 60 := by omega
    clear w0 w1
    go_enter Try.func6, Try.ntmps6
    go_wp2_with fail
    refine (shuffle_p s k _ hs (by omega)).mono ?_
    rintro e u1 ⟨v1, rfl, ho1, hbe1⟩
    obtain ⟨L, d, rfl⟩ := own_slice ho1
    clear hk
    go_wp2_with fail
    have hrl := (own_rd ho1 (by omega)).2
    have hll : (Rnd.shl k s).length = k := (own_rd ho1 (by omega)).1
    have HLL := Lib.hid hll
    clear hll ho1
    go_loopw [12] (fun v wr => ∃ j : Nat, j ≤ k ∧ v = .int .i64 j ∧ wr.rowIs u1.heap.size 42 60 (fun m => .bool (Rnd.seen (Rnd.shf k s) j m)) ∧ Below u1.heap.size u1 wr) (fun v _ => k - (intOf v).toNat)
    case atStart =>
      refine ⟨0, Nat.zero_le _, rfl, ?_, (Below.refl _ _).alloc (Nat.le_refl _) _⟩
      refine ⟨_, heap_alloc_new u1 _, rfl, fun i hi => ?_⟩
      change (Array.replicate 60 (Value.bool false))[i]? = _
      simp [hi, Rnd.seen]
    case round =>
      obtain ⟨j, hj, rfl, hrow, hbel⟩ := hrel
      by_cases hjk : j < k
      · obtain ⟨ad, x, rfl, hx, ca⟩ := (hrl.keep hbel).at_ (by rw [HLL.out]; exact hjk)
        have hxl := Rnd.shf_lt k s hjk
        rw [Rnd.shl_get k s hjk] at hx
        obtain ⟨y, hy⟩ : ∃ y, y = Rnd.shf k s j := ⟨_, rfl⟩
        rw [← hy] at hx hxl
        subst hx
        have hsn := Rnd.seen_no k s j hjk
        rw [← hy] at hsn
        have hcy := hrow.cell (i := y) (by omega)
        have hcf := hrow.frozen y
        rw [hsn] at hcy
        have HY := Lib.hid hy
        clear hy hsn hrl
        go_wp2
        go_roundw
        case rel =>
          refine ⟨j + 1, by omega, by go_num, (hrow.set y _).congr (fun m hm => ?_), hbel.setCell (Nat.le_refl _) _⟩
          rw [Rnd.seen_succ, ← HY.out]
          by_cases e : m = y
          · subst e; simp
          · rw [if_neg e]
            have : (y == m) = false := by simp; omega
            rw [this, Bool.or_false]
        case measure => simp [intOf]; omega
      · have hb2 : Below w.heap.size w wr := below_seq hbe1 hbel
        clear hrow hrl hbel
        go_wp2
        obtain ⟨wo, rfl⟩ : ∃ wo : World, wo = wr := ⟨_, rfl⟩
        go_loopw [13, 14, 15] (fun v u i wr => ∃ (j : Nat) (B : Option Addr) (e : Nat), j ≤ xs.length ∧ i = .int .i64 j ∧ v = .slice B j e ∧ u = .int .i64 ((Rnd.w4 xs).take j).sum ∧ wr.ownsRow w.heap.size 3 1 (.slice B j e) j (((Rnd.w4 xs).take j).map (.int .i64)) ∧ Below w.heap.size w wr) (fun _ _ i _ => xs.length - (intOf i).toNat)
        case atStart => exact ⟨0, none, 0, Nat.zero_le _, rfl, rfl, rfl, World.ownsRow_nil _ _ _ _, hb2⟩
        case round =>
          clear hb2 hj hjk
          obtain ⟨j, B, e, hj, rfl, rfl, rfl, hown, hbel⟩ := hrel
          have hsum := Rnd.w4_sum xs j hj
          by_cases hjx : j < xs.length
          · obtain ⟨ad, x, rfl, hx, ca⟩ := (hr.keep hbel).at_ hjx
            have hxw := bounds_u8 (hw x (by rw [← hx, List.getD_eq_getElem?_getD, List.getElem?_eq_getElem hjx]; simp))
            have hts := Rnd.w4_take_succ xs hjx
            rw [hx] at hts
            have hts2 : ((Rnd.w4 xs).take (j + 1)).sum = ((Rnd.w4 xs).take j).sum + x % 4 := by rw [hts, List.sum_append]; simp
            have hlt : ((Rnd.w4 xs).take j).length = j := by rw [List.length_take, Rnd.w4_len]; omega
            have HTS := Lib.hid hts
            have HT2 := Lib.hid hts2
            have HLT := Lib.hid hlt
            clear hx hts hts2 hw hlt
            go_wp2_with (at_builtin; refine app1 rfl (.tmp 83) (.tmp 90) 32 3 _ _ rfl Try.underlying32 info3 rfl (by decide) rfl rfl hown rfl (by omega) hbel.size ?_; intro v' w' hown' hb' hsz'; obtain ⟨A', c', rfl⟩ := own_slice hown'; obtain ⟨ad2, rfl, hcy⟩ := (own_rdv hown' (by omega)).2.2 (by simp); have cy := hcy j _ (snoc_at _ _ HLT.out _); clear hcy)
            go_roundw
            case rel =>
              refine ⟨j + 1, some ad2, c', by omega, by go_num, rfl, by rw [HT2.out], ?_, hb' _ _ (Nat.le_refl _) hbel⟩
              rw [HTS.out, List.map_append]; exact hown'
            case measure => simp [intOf]; omega
          · obtain rfl : j = xs.length := by omega
            have hfull : (Rnd.w4 xs).take xs.length = Rnd.w4 xs := by rw [← Rnd.w4_len xs, List.take_length]
            rw [hfull] at hown hsum ⊢
            obtain ⟨hlen, hra⟩ := own_rd hown (by omega)
            rw [← hlen]
            have hnn := Rnd.w4_nn xs
            clear hfull hjx hj hw hown
            by_cases hz : (Rnd.w4 xs).sum = 0
            · have hch := Rnd.chv_out (s := s) hnn (.inr hz)
              have HC := Lib.hid hch
              have hbz : ((Rnd.w4 xs).sum == 0) = true := by simp [hz]
              have HZ := Lib.hid hz
              have HL := Lib.hid hlen
              clear hch hz hnn hlen
              go_wp2_with fail
              refine (choose_p s B e (Rnd.w4 xs) _ hra hs).mono ?_
              rintro e' w' ⟨rfl, rfl⟩
              rw [HC.out]
              go_wp2_with fail
              refine (below_p_no s (Rnd.w4 xs).sum _ (.inl (by rw [HZ.out]; omega))).mono ?_
              rintro e' w' ⟨rfl, rfl⟩
              go_wp2_with fail
              refine (awake4 _).mono ?_
              rintro e' w' ⟨rfl, hb3⟩
              go_wp2_with fail
              go_ret
              exact ⟨rfl, below_seq hbel hb3⟩
            · have hs1 : 1 ≤ (Rnd.w4 xs).sum := by omega
              have hch := Rnd.chv_in (s := s) hnn (by omega) hs1
              have hx0 : ∃ x0, x0 = (Rnd.bel s (Rnd.w4 xs).sum.toNat).1 := ⟨_, rfl⟩
              obtain ⟨x0, hx0⟩ := hx0
              have hxl := Rnd.bel_lt s (Rnd.w4 xs).sum.toNat (by omega)
              rw [← hx0] at hxl
              obtain ⟨hp1, hp2, hp3⟩ := Rnd.pick_spec (Rnd.w4 xs) x0 (by omega) (by omega)
              rw [← hx0] at hch
              obtain ⟨i, hi⟩ : ∃ i, i = Rnd.pick (Rnd.w4 xs) x0 := ⟨_, rfl⟩
              rw [← hi] at hch hp1 hp2 hp3
              obtain ⟨ad, y, rfl, hy, cy⟩ := hra.at_ hp1
              rw [hy] at hp3
              have hbz : ((Rnd.w4 xs).sum == 0) = false := by simp; omega
              have hy0 : (y == 0) = false := by simp; omega
              have HC := Lib.hid hch
              have HX := Lib.hid hx0
              have HI := Lib.hid hi
              have HL := Lib.hid hlen
              have hnat := Lib.hid (show (Rnd.w4 xs).sum = ((Rnd.w4 xs).sum.toNat : Int) by omega)
              have hi60 : i ≤ 60 := by omega
              clear hch hz hx0 hi hlen hy
              go_wp2_with fail
              refine (choose_p s (some ad) e (Rnd.w4 xs) _ hra hs).mono ?_
              rintro e' w' ⟨rfl, rfl⟩
              rw [HC.out]
              go_wp2_with fail
              refine (below_pI s _ _ (Rnd.w4 xs).sum.toNat hnat.out hs (by omega) (by omega)).mono ?_
              rintro e' w' ⟨rfl, rfl⟩
              rw [← HX.out]
              go_wp2_with fail
              obtain ⟨wo, rfl⟩ : ∃ wo : World, wo = wr := ⟨_, rfl⟩
              go_loop [19, 22] (fun u v => ∃ (m : Nat) (z : Int), m ≤ i ∧ v = .int .i64 m ∧ u = .int .i64 z ∧ z = (x0 : Int) - ((Rnd.w4 xs).take m).sum) (fun _ v => i - (intOf v).toNat)
              case atStart => exact ⟨0, x0, Nat.zero_le _, rfl, rfl, by simp⟩
              case round =>
                obtain ⟨m, z, hm', rfl, rfl, hz⟩ := hrel
                have hzs := Rnd.w4_sum xs m (by have := HL.out; omega)
                by_cases hmi : m < i
                · obtain ⟨ad', q, had, hq, cq⟩ := hra.at_ (i := m) (by omega)
                  cases had
                  have hts := Rnd.take_sum_succ (Rnd.w4 xs) (j := m) (by omega)
                  have hzs' := Rnd.w4_sum xs (m + 1) (by have := HL.out; omega)
                  rw [hq] at hts
                  have hz1 : z - q = (x0 : Int) - ((Rnd.w4 xs).take (m + 1)).sum := by omega
                  have hz2 : -1000 ≤ z - q := by omega
                  have hz3 : z - q ≤ 4294967296 := by omega
                  have HZ := Lib.hid hz1
                  clear hq hts hzs' hz hz1 hzs
                  go_wp2
                  go_round
                  case rel => exact ⟨m + 1, z - q, by omega, by go_num, rfl, HZ.out⟩
                  case measure => simp [intOf]; omega
                · obtain rfl : m = i := by omega
                  have hz0 : 0 ≤ z := by omega
                  have hz1 : z < y := by omega
                  clear hz hzs hp3 hp2
                  go_wp2_with (go_at_call 18; refine (awake4 _).mono ?_; rintro e' w' ⟨rfl, hb3⟩)
                  go_ret
                  exact ⟨rfl, below_seq hbel hb3⟩
end Go.Proofs.Ythemmbdhhjelcaa
