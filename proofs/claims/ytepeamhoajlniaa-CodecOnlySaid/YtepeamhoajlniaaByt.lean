/- Lists of bytes: read, sliced, owned; the opening of an argument that is a slice of bytes. -/
import Derived.Test.YtepeamhoajlniaaApp
import Derived.Test.YtepeamhoajlniaaMat
import Derived.Test.YtepeamhoajlniaaOpenS
import Derived.Laws.BytesArg
import Derived.ArgAppend
import Derived.DataElems
namespace Go.Proofs.Ytepeamhoajlniaa
open Go.ChangeShapes Go.WideShapes Go.ChangeAt Go.RowKit

/-- bytes as values -/
def byv (bs : List Nat) : List Value := bs.map fun (x : Nat) => Value.int .u8 (x : Int)
theorem byv_len (bs : List Nat) : (byv bs).length = bs.length := by simp [byv]
theorem byv_snoc (bs : List Nat) (x : Nat) : byv (bs ++ [x]) = byv bs ++ [Value.int .u8 (x : Int)] := by simp [byv]
theorem byv_app (bs cs : List Nat) : byv (bs ++ cs) = byv bs ++ byv cs := by simp [byv]
theorem byv_one (bs : List Nat) : ∀ u ∈ byv bs, u.oneCell' = true := by
  intro u hu
  obtain ⟨x, _, rfl⟩ := List.mem_map.1 hu
  rfl

/-- a slice of bytes that reads as a list -/
def RdB (w : World) (A : Option Addr) (c : Nat) (bs : List Nat) : Prop :=
  bs.length ≤ c ∧ c ≤ 9223372036854775807 ∧ (0 < bs.length → ∃ ad, A = some ad ∧ ∀ i, i < bs.length → w.cell? (ad.add i) = some (.int .u8 ((bs.getD i 0 : Nat) : Int)))
section
variable {w w' : World} {A : Option Addr} {c : Nat} {bs : List Nat}
theorem RdB.at_ (h : RdB w A c bs) {i : Nat} (hi : i < bs.length) : ∃ ad x, A = some ad ∧ bs.getD i 0 = x ∧ w.cell? (ad.add i) = some (.int .u8 ((x : Nat) : Int)) := by
  obtain ⟨ad, e, hc⟩ := h.2.2 (by omega)
  exact ⟨ad, _, e, rfl, hc i hi⟩
theorem RdB.keep (h : RdB w A c bs) (hb : Below w.heap.size w w') : RdB w' A c bs := by
  refine ⟨h.1, h.2.1, fun hp => ?_⟩
  obtain ⟨ad, e, hc⟩ := h.2.2 hp
  refine ⟨ad, e, fun i hi => ?_⟩
  rw [hb.cell (World.block_lt_of_cell? _ _ (hc i hi))]; exact hc i hi
theorem RdB.drewN (h : RdB w A c bs) (n : Nat) : RdB (w.drewN n) A c bs := h
theorem RdB.nil (hc : c ≤ 9223372036854775807) : RdB w A c [] := ⟨by simp, hc, fun h => absurd h (by simp)⟩
theorem RdB.len (h : RdB w A c bs) : bs.length ≤ 9223372036854775807 := Nat.le_trans h.1 h.2.1
theorem RdB.vals (h : RdB w A c bs) : RdV w A (byv bs) := by
  refine ⟨by rw [byv_len]; exact h.len, fun hp => ?_⟩
  rw [byv_len] at hp
  obtain ⟨ad, e, hc⟩ := h.2.2 hp
  refine ⟨ad, e, fun i u hu => ?_⟩
  by_cases hi : i < bs.length
  · rw [hc i hi]
    unfold byv at hu
    rw [List.getElem?_map, List.getElem?_eq_getElem hi] at hu
    rw [List.getD_eq_getElem?_getD, List.getElem?_eq_getElem hi]
    simpa using hu
  · rw [List.getElem?_eq_none (by rw [byv_len]; omega)] at hu; cases hu
theorem rdv_rdb (h : RdV w A (byv bs)) (h1 : bs.length ≤ c) (h2 : c ≤ 9223372036854775807) : RdB w A c bs := by
  refine ⟨h1, h2, fun hp => ?_⟩
  obtain ⟨ad, e, hc⟩ := h.2 (by rw [byv_len]; exact hp)
  refine ⟨ad, e, fun i hi => hc i _ ?_⟩
  unfold byv
  rw [List.getElem?_map, List.getElem?_eq_getElem hi, List.getD_eq_getElem?_getD, List.getElem?_eq_getElem hi]
  rfl
/-- what the call owns reads -/
theorem own_rdb {base n : Nat} (h : w.ownsRow base 5 1 (.slice A n c) n (byv bs)) (hn : n ≤ 1152921504606846976) : bs.length = n ∧ RdB w A c bs := by
  obtain ⟨h1, h2⟩ := own_rdv h hn
  rw [byv_len] at h1
  refine ⟨h1, ?_⟩
  rcases h.2 with ⟨hv, h0⟩ | ⟨g, cap, cur, hv, _, _, hnc, hm, _⟩
  · injection hv with e1 e2 e3
    subst e1 e2 e3
    exact rdv_rdb h2 (by omega) (by omega)
  · injection hv with e1 e2 e3
    subst e1 e3
    unfold maxLen at hm
    exact rdv_rdb h2 (by omega) (by omega)
/-- a part of a slice -/
theorem RdB.sub (h : RdB w A c bs) (lo hi : Nat) (h1 : lo ≤ hi) (h2 : hi ≤ bs.length) : RdB w (if c = lo then A else A.map (·.add (lo * 1))) (c - lo) ((bs.take hi).drop lo) := by
  have hl : ((bs.take hi).drop lo).length = hi - lo := by simp; omega
  have hh := h.1
  have hc := h.2.1
  refine ⟨by omega, by omega, fun hp => ?_⟩
  obtain ⟨ad, e, hcell⟩ := h.2.2 (by omega)
  subst e
  refine ⟨ad.add lo, ?_, fun i hi' => ?_⟩
  · rw [if_neg (by omega)]; simp
  · rw [Addr.add_add, hcell (lo + i) (by omega)]
    congr 3
    rw [List.getD_eq_getElem?_getD, List.getD_eq_getElem?_getD, List.getElem?_drop, List.getElem?_take, if_pos (by omega)]
theorem RdB.dropl (h : RdB w A c bs) (lo : Nat) (h1 : lo ≤ bs.length) : RdB w (if c = lo then A else A.map (·.add (lo * 1))) (c - lo) (bs.drop lo) := by
  have := h.sub lo bs.length h1 (Nat.le_refl _)
  rwa [List.take_length] at this
theorem RdB.takel (h : RdB w A c bs) (hi : Nat) (h2 : hi ≤ bs.length) : RdB w A c (bs.take hi) := by
  have hl : (bs.take hi).length = hi := by simp; omega
  have hh := h.1
  refine ⟨by omega, h.2.1, fun hp => ?_⟩
  obtain ⟨ad, e, hcell⟩ := h.2.2 (by omega)
  refine ⟨ad, e, fun i hi' => ?_⟩
  rw [hcell i (by omega)]
  congr 3
  rw [List.getD_eq_getElem?_getD, List.getD_eq_getElem?_getD, List.getElem?_take, if_pos (by omega)]
end

section
variable {P : Program}
/-- b[lo:] -/
theorem run_sub_l {w0 : World} (t e : TypeId) (ht : P.underlying t = some (.slice e)) (hinfo : (P.info? e).map (·.size) = some 1) {A : Option Addr} {c : Nat} {bs : List Nat} (h : RdB w0 A c bs) (lo : Nat) (h1 : lo ≤ bs.length) :
    ∃ A' c', (∀ w : World, (Instr.slice t (.slice A bs.length c) (some (.int .i64 (lo : Int))) none none).run P w = .ok (.slice A' (bs.length - lo) c') w) ∧ RdB w0 A' c' (bs.drop lo) := by
  have he : P.elem t = e := by simp [Program.elem, ht]
  obtain ⟨i, hi, hs⟩ := Option.map_eq_some_iff.1 hinfo
  refine ⟨_, _, fun w => ?_, h.dropl lo h1⟩
  rw [run_slice_l w t A bs.length c (by rw [he]; exact ht) .i64 lo (by omega) (by omega)]
  simp [sizeOf, typeInfo, he, hi, hs, sliced, Result.andThen]
/-- b[:hi] -/
theorem run_sub_h {w0 : World} (t e : TypeId) (ht : P.underlying t = some (.slice e)) (hinfo : (P.info? e).map (·.size) = some 1) {A : Option Addr} {c : Nat} {bs : List Nat} (h : RdB w0 A c bs) (hi : Nat) (h1 : hi ≤ bs.length) :
    ∃ A' c', (∀ w : World, (Instr.slice t (.slice A bs.length c) none (some (.int .i64 (hi : Int))) none).run P w = .ok (.slice A' hi c') w) ∧ RdB w0 A' c' (bs.take hi) := by
  have he : P.elem t = e := by simp [Program.elem, ht]
  obtain ⟨i, hi', hs⟩ := Option.map_eq_some_iff.1 hinfo
  have hh := h.1
  refine ⟨A, c, fun w => ?_, h.takel hi h1⟩
  rw [run_slice_h w t A bs.length c (by rw [he]; exact ht) .i64 hi (by omega) (by omega)]
  simp [sizeOf, typeInfo, he, hi', hs, sliced, Result.andThen]
  intro _; cases A <;> simp [Addr.add]
/-- b[lo:hi] -/
theorem run_sub_lh {w0 : World} (t e : TypeId) (ht : P.underlying t = some (.slice e)) (hinfo : (P.info? e).map (·.size) = some 1) {A : Option Addr} {c : Nat} {bs : List Nat} (h : RdB w0 A c bs) (lo hi : Nat) (h0 : lo ≤ hi) (h1 : hi ≤ bs.length) :
    ∃ A' c', (∀ w : World, (Instr.slice t (.slice A bs.length c) (some (.int .i64 (lo : Int))) (some (.int .i64 (hi : Int))) none).run P w = .ok (.slice A' (hi - lo) c') w) ∧ RdB w0 A' c' ((bs.take hi).drop lo) := by
  have he : P.elem t = e := by simp [Program.elem, ht]
  obtain ⟨i, hi', hs⟩ := Option.map_eq_some_iff.1 hinfo
  have hh := h.1
  refine ⟨_, _, fun w => ?_, h.sub lo hi h0 h1⟩
  rw [run_slice_lh w t A bs.length c (by rw [he]; exact ht) .i64 .i64 lo hi (by omega) (by omega) (by omega)]
  simp [sizeOf, typeInfo, he, hi', hs, sliced, Result.andThen]
/-- string(b) -/
theorem run_text {w0 : World} (t e d : TypeId) (ht : P.underlying t = some (.slice e)) (he : P.underlying e = some (.int .u8)) (hd : P.underlying d = some .string) {A : Option Addr} {c : Nat} {bs : List Nat} (h : RdB w0 A c bs) {w : World} (hb : Below w0.heap.size w0 w) :
    (convert t d (.slice A bs.length c)).run P w = .ok (.string (strOfNums (bs.map fun (x : Nat) => (x : Int)))) w := by
  have h' := h.keep hb
  rcases Nat.eq_zero_or_pos bs.length with h0 | h0
  · have : bs = [] := List.eq_nil_of_length_eq_zero h0
    subst this
    rcases A with _ | ad
    · exact run_convert_bytes_nil w t e ht he _ _ d hd
    · have := run_convert_bytes_string (P := P) w t d e (some ad) 0 c ht he hd
      simp only [List.length_nil]
      rw [this, run_bytesToString w ad 0 c [] (by have := run_loadCells_list (P := P) w ad [] (by intro j v hj; simp at hj); simpa using this)]
      rfl
  · obtain ⟨ad, rfl, hc⟩ := h'.2.2 h0
    have hl : (loadCells ad bs.length).run P w = .ok ((bs.map fun (x : Nat) => (x : Int)).map (Value.int .u8)).toArray w := by
      have := run_loadCells_list (P := P) w ad ((bs.map fun (x : Nat) => (x : Int)).map (Value.int .u8)) (fun j v hj => by
        have hjl : j < bs.length := by
          rcases Nat.lt_or_ge j bs.length with h | h
          · exact h
          · rw [List.getElem?_eq_none (by simpa using h)] at hj; cases hj
        rw [hc j hjl]
        simp [List.getElem?_eq_getElem hjl] at hj
        subst hj
        simp [List.getD, List.getElem?_eq_getElem hjl])
      simpa using this
    rw [run_convert_bytes_string w t d e _ _ _ ht he hd, run_bytesToString w _ _ c _ hl, foldl_push_bytes]
    simp [strOfNums, ByteArray.empty, ByteArray.emptyWithCapacity]
    rfl
end
theorem text_inj {bs cs : List Nat} (hb : ∀ x ∈ bs, x < 256) (hc : ∀ x ∈ cs, x < 256) (h : strOfNums (bs.map fun (x : Nat) => (x : Int)) = strOfNums (cs.map fun (x : Nat) => (x : Int))) : bs = cs := by
  have h1 := congrArg (fun s => s.data.toList.map UInt8.toNat) h
  simp only [strOfNums_data, List.map_map] at h1
  have key : ∀ l : List Nat, (∀ x ∈ l, x < 256) → l.map (UInt8.toNat ∘ (fun n : Int => UInt8.ofNat n.toNat) ∘ fun x : Nat => (x : Int)) = l := by
    intro l hl
    conv => rhs; rw [← List.map_id l]
    apply List.map_congr_left
    intro x hx
    have := hl x hx
    simp [Function.comp]; omega
  rw [key bs hb, key cs hc] at h1
  exact h1

theorem open_by {H : Type} {enc : TypeId × Value → H} {P : Program} {W : World} {base : Nat} {spare : Nat → Bool} {held : Bool} {t e : TypeId} {r : Reach} {b0 : Nat} {v : Value} {d : DataW H} {p : List MemPlace}
    (ht : P.underlying t = some (.slice e)) (he : P.underlying e = some (.int .u8)) (hc : P.cellsOf e = 1) (hsp : ∀ b, spare b = true)
    (hv : Value.okWide P W r b0 t v) (h : DataW.Trod enc P W base spare held t v d p) : ∃ A c bs, v = .slice A (bs : List Nat).length c ∧ RdB W A c bs ∧ ∀ x ∈ bs, x < 256 := by
  obtain ⟨a, len, cap, rfl⟩ := okWide_slice ht hv
  obtain ⟨fuel, hf⟩ := h
  rcases open_ints ht he hc hf with ⟨hcs, _⟩ | ⟨x, l, c, zs, hcs, _, hl, hm, hz, _, hcell, hwz⟩
  · simp [Value.cells] at hcs
    obtain ⟨rfl, rfl, rfl⟩ := hcs
    exact ⟨none, 0, [], rfl, RdB.nil (by omega), fun x hx => by cases hx⟩
  · simp [Value.cells] at hcs
    obtain ⟨rfl, rfl, rfl⟩ := hcs
    have hz' : zs.length = cap := by simpa [hsp] using hz
    unfold maxLen at hm
    have hwf : ∀ y ∈ zs, 0 ≤ y ∧ y < 256 := by
      intro y hy
      have h1 := hwz y hy
      simp only [Lit.wf, Bool.and_eq_true, decide_eq_true_eq, show IntKind.u8.min = 0 from rfl, show IntKind.u8.max = 255 from rfl] at h1
      omega
    have hlen : ((zs.take len).map Int.toNat).length = len := by simp; omega
    refine ⟨some x, cap, (zs.take len).map Int.toNat, by rw [hlen], ⟨by omega, by omega, fun _ => ⟨x, rfl, fun i hi => ?_⟩⟩, ?_⟩
    · rw [hcell i (by omega)]
      have hi' : i < zs.length := by omega
      have hn := hwf _ (List.getElem_mem hi')
      congr 2
      rw [List.getD_eq_getElem?_getD, List.getD_eq_getElem?_getD, List.getElem?_map, List.getElem?_take, if_pos (by omega), List.getElem?_eq_getElem hi']
      simp; omega
    · intro y hy
      obtain ⟨z, hz1, rfl⟩ := List.mem_map.1 hy
      have := hwf z (List.mem_of_mem_take hz1)
      omega
end Go.Proofs.Ytepeamhoajlniaa
