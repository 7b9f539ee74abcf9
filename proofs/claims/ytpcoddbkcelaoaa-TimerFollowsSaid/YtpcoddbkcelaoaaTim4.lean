/- Plain law of an execution with timers. -/
import Derived.Test.YtpcoddbkcelaoaaTim3
namespace Go.Proofs.Ytpcoddbkcelaoaa.Tm
open Mea

/-- an event: time, symbol, output -/
abbrev Ev := Int × Int × Int
structure St where
  c : Cfg
  at_ : Nat → Int
  ev : List Ev
/-- the running timer that times out first, among the first ones -/
def firstF (c : Cfg) (f : Nat → Int) : Nat → Int
  | 0 => -1
  | j + 1 => if c.2.getD j false = true ∧ (firstF c f j < 0 ∨ f j < f (firstF c f j).toNat) then (j : Int) else firstF c f j
/-- .. up to a limit -/
def dueF (c : Cfg) (f : Nat → Int) (lim : Int) : Nat → Int
  | 0 => -1
  | j + 1 => if c.2.getD j false = true ∧ f j ≤ lim ∧ (dueF c f lim j < 0 ∨ f j < f (dueF c f lim j).toNat) then (j : Int) else dueF c f lim j
theorem first_run (c : Cfg) (f : Nat → Int) : ∀ j, firstF c f j = -1 ∨ (0 ≤ firstF c f j ∧ firstF c f j < j ∧ c.2.getD (firstF c f j).toNat false = true)
  | 0 => .inl rfl
  | j + 1 => by
    unfold firstF
    split
    · rename_i h; right; refine ⟨by omega, by omega, ?_⟩; rw [Int.toNat_natCast]; exact h.1
    · rcases first_run c f j with h | ⟨h1, h2, h3⟩
      · exact .inl h
      · exact .inr ⟨h1, by omega, h3⟩
theorem first_yes {c : Cfg} {f : Nat → Int} {j : Nat} (h : c.2.getD j false = true) (g : firstF c f j < 0 ∨ f j < f (firstF c f j).toNat) : firstF c f (j + 1) = (j : Int) := by
  unfold firstF; rw [if_pos ⟨h, g⟩]
theorem first_no {c : Cfg} {f : Nat → Int} {j : Nat} (h : ¬ (c.2.getD j false = true ∧ (firstF c f j < 0 ∨ f j < f (firstF c f j).toNat))) : firstF c f (j + 1) = firstF c f j := by
  conv => lhs; unfold firstF
  rw [if_neg h]
theorem due_yes {c : Cfg} {f : Nat → Int} {lim : Int} {j : Nat} (h : c.2.getD j false = true) (h2 : f j ≤ lim) (g : dueF c f lim j < 0 ∨ f j < f (dueF c f lim j).toNat) : dueF c f lim (j + 1) = (j : Int) := by
  unfold dueF; rw [if_pos ⟨h, h2, g⟩]
theorem due_no {c : Cfg} {f : Nat → Int} {lim : Int} {j : Nat} (h : ¬ (c.2.getD j false = true ∧ f j ≤ lim ∧ (dueF c f lim j < 0 ∨ f j < f (dueF c f lim j).toNat))) : dueF c f lim (j + 1) = dueF c f lim j := by
  conv => lhs; unfold dueF
  rw [if_neg h]
theorem due_first (c : Cfg) (f : Nat → Int) (lim : Int) : ∀ j, dueF c f lim j = if firstF c f j < 0 ∨ lim < f (firstF c f j).toNat then -1 else firstF c f j
  | 0 => by simp [dueF, firstF]
  | j + 1 => by
    have ih := due_first c f lim j
    by_cases hrun : c.2.getD j false = true
    · by_cases h0 : firstF c f j < 0
      · rw [if_pos (.inl h0)] at ih
        rw [first_yes hrun (.inl h0), Int.toNat_natCast]
        by_cases hl : f j ≤ lim
        · rw [due_yes hrun hl (.inl (by omega)), if_neg (by omega)]
        · rw [due_no (fun h => hl h.2.1), ih, if_pos (by omega)]
      · by_cases hl : lim < f (firstF c f j).toNat
        · rw [if_pos (.inr hl)] at ih
          by_cases hj : f j < f (firstF c f j).toNat
          · rw [first_yes hrun (.inr hj), Int.toNat_natCast]
            by_cases hl2 : f j ≤ lim
            · rw [due_yes hrun hl2 (.inl (by omega)), if_neg (by omega)]
            · rw [due_no (fun h => hl2 h.2.1), ih, if_pos (by omega)]
          · rw [first_no (fun h => by rcases h.2 with h | h <;> omega), due_no (fun h => by have := h.2.1; omega), ih, if_pos (.inr hl)]
        · rw [if_neg (by omega)] at ih
          by_cases hj : f j < f (firstF c f j).toNat
          · rw [first_yes hrun (.inr hj), due_yes hrun (by omega) (.inr (by rw [ih]; exact hj)), Int.toNat_natCast, if_neg (by omega)]
          · rw [first_no (fun h => by rcases h.2 with h | h <;> omega), due_no (fun h => by rw [ih] at h; rcases h.2.2 with h | h <;> omega), ih, if_neg (by omega)]
    · rw [first_no (fun h => hrun h.1), due_no (fun h => hrun h.1)]
      exact ih
theorem first_congr {c : Cfg} {f g : Nat → Int} (h : ∀ x, c.2.getD x false = true → f x = g x) : ∀ j, firstF c f j = firstF c g j
  | 0 => rfl
  | j + 1 => by
    have ih := first_congr h j
    unfold firstF
    rw [← ih]
    by_cases hrun : c.2.getD j false = true
    · rcases first_run c f j with h1 | ⟨h1, h2, h3⟩
      · rw [if_pos ⟨hrun, .inl (by omega)⟩, if_pos ⟨hrun, .inl (by omega)⟩]
      · rw [h _ h3, h j hrun]
    · rw [if_neg (fun h => hrun h.1), if_neg (fun h => hrun h.1)]
/-- nothing that runs is earlier -/
theorem first_min (c : Cfg) (f : Nat → Int) : ∀ j, (∀ x, x < j → c.2.getD x false = true → 0 ≤ firstF c f j ∧ f (firstF c f j).toNat ≤ f x)
  | 0, x, hx, _ => by omega
  | j + 1, x, hx, hr => by
    have ih := first_min c f j x
    unfold firstF
    by_cases hc : c.2.getD j false = true ∧ (firstF c f j < 0 ∨ f j < f (firstF c f j).toNat)
    · rw [if_pos hc, Int.toNat_natCast]
      refine ⟨by omega, ?_⟩
      by_cases e : x = j
      · subst e; omega
      · have := ih (by omega) hr
        rcases hc.2 with h | h <;> omega
    · rw [if_neg hc]
      by_cases e : x = j
      · subst e
        have : ¬ (firstF c f x < 0 ∨ f x < f (firstF c f x).toNat) := fun h => hc ⟨hr, h⟩
        omega
      · exact ih (by omega) hr
/-- a timer's time -/
def upd (f : Nat → Int) (a : Int) (v : Int) : Nat → Int := fun x => if 0 ≤ a ∧ x = a.toNat then v else f x
def evt (m : M) (c : Cfg) (i : Nat) (now : Int) : Ev := (now, (i : Int), outA m c.1 i)
/-- the execution behind a symbol -/
def take (m : M) (k : Nat) (st : St) (i : Nat) (now : Int) : St :=
  ⟨aftC m k st.c i, if 0 < (setA m st.c.1 i).2 then upd st.at_ (setA m st.c.1 i).1 (now + (setA m st.c.1 i).2) else st.at_, st.ev ++ [evt m st.c i now]⟩
/-- the timers that run have these times -/
def Agree (c : Cfg) (f g : Nat → Int) : Prop := ∀ x, c.2.getD x false = true → f x = g x
theorem getD_set (l : List Bool) (a x : Nat) (b : Bool) : (l.set a b).getD x false = if a = x ∧ a < l.length then b else l.getD x false := by
  rw [List.getD_eq_getElem?_getD, List.getD_eq_getElem?_getD, List.getElem?_set]
  by_cases h : a = x
  · subst h
    rw [if_pos rfl]
    by_cases hl : a < l.length
    · rw [if_pos hl, if_pos ⟨rfl, hl⟩]; rfl
    · rw [if_neg hl, if_neg (by omega), List.getElem?_eq_none (by omega)]
  · rw [if_neg h, if_neg (by omega)]
theorem run1_sub {k : Nat} {c : Cfg} {i x : Nat} (h : (run1 k c i).getD x false = true) : c.2.getD x false = true := by
  unfold run1 at h
  split at h
  · exact h
  · rw [getD_set] at h
    split at h
    · cases h
    · exact h
theorem acts_iff {m : M} {k : Nat} {c : Cfg} {i : Nat} : acts m k c i = true ↔ 0 ≤ (setA m c.1 i).1 ∧ ((setA m c.1 i).2 ≠ 0 ∨ (run1 k c i).getD (setA m c.1 i).1.toNat false = true) := by
  unfold acts; simp
/-- what runs behind a symbol ran before, or is set -/
theorem aft_run {m : M} {k : Nat} {c : Cfg} {i x : Nat} (h : (aftC m k c i).2.getD x false = true) : ((0 < (setA m c.1 i).2 ∧ 0 ≤ (setA m c.1 i).1 ∧ x = (setA m c.1 i).1.toNat)) ∨ (¬ (0 ≤ (setA m c.1 i).1 ∧ x = (setA m c.1 i).1.toNat) ∧ c.2.getD x false = true) := by
  have e : (aftC m k c i).2 = if acts m k c i then (run1 k c i).set (setA m c.1 i).1.toNat (decide (0 < (setA m c.1 i).2)) else run1 k c i := rfl
  rw [e] at h
  by_cases ha : acts m k c i = true
  · rw [if_pos ha] at h
    obtain ⟨h1, h2⟩ := acts_iff.1 ha
    rw [getD_set] at h
    by_cases hx : (setA m c.1 i).1.toNat = x ∧ (setA m c.1 i).1.toNat < (run1 k c i).length
    · rw [if_pos hx] at h
      left; exact ⟨by simpa using h, h1, hx.1.symm⟩
    · rw [if_neg hx] at h
      right
      refine ⟨fun hh => hx ⟨hh.2.symm, ?_⟩, run1_sub h⟩
      rw [← hh.2]
      rcases Nat.lt_or_ge x (run1 k c i).length with hl | hl
      · exact hl
      · rw [List.getD_eq_getElem?_getD, List.getElem?_eq_none hl] at h; simp at h
  · have hf : acts m k c i = false := by simpa using ha
    rw [hf] at h
    have h' : (run1 k c i).getD x false = true := by simpa using h
    by_cases hs : 0 < (setA m c.1 i).2 ∧ 0 ≤ (setA m c.1 i).1
    · exact absurd (acts_iff.2 ⟨hs.2, .inl (by omega)⟩) ha
    · right
      refine ⟨fun hh => ?_, run1_sub h'⟩
      rw [hh.2] at h'
      exact ha (acts_iff.2 ⟨hh.1, .inr h'⟩)
/-- the code's way of keeping the times serves as well -/
theorem Agree.take {m : M} {k : Nat} {c : Cfg} {i : Nat} {f g : Nat → Int} {now : Int} (h : Agree c f g) :
    Agree (aftC m k c i) (if 0 < (setA m c.1 i).2 then upd f (setA m c.1 i).1 (now + (setA m c.1 i).2) else f) (upd g (setA m c.1 i).1 (now + (setA m c.1 i).2)) := by
  intro x hx
  rcases aft_run hx with ⟨h1, h2, h3⟩ | ⟨h1, h2⟩
  · rw [if_pos h1]
    unfold upd
    rw [if_pos ⟨h2, h3⟩, if_pos ⟨h2, h3⟩]
  · have e : upd g (setA m c.1 i).1 (now + (setA m c.1 i).2) x = g x := by unfold upd; rw [if_neg h1]
    rw [e]
    split
    · have e : upd f (setA m c.1 i).1 (now + (setA m c.1 i).2) x = f x := by unfold upd; rw [if_neg h1]
      rw [e]; exact h x h2
    · exact h x h2
/-- the greatest time -/
def top : Int := 1125899906842624
structure StOk (m : M) (T : Nat) (st : St) : Prop where
  c : CfgOk m.nx.length T st.c
  t0 : ∀ x, 0 ≤ st.at_ x
  t1 : ∀ x, st.at_ x ≤ top + 1000
section
variable {m : M} {k T S : Nat}
theorem StOk.take (h : Ok m k T S) {st : St} (hs : StOk m T st) {i : Nat} {now : Int} (hi : i < k + T) (h0 : 0 ≤ now) (h1 : now ≤ top) : StOk m T (take m k st i now) := by
  have hc := h.cell st.c.1 i hs.c.1 hi
  have b0 := hc.b0
  have b1 := hc.b1
  refine ⟨aft_ok h hs.c hi, fun x => ?_, fun x => ?_⟩
  · show 0 ≤ (if 0 < (setA m st.c.1 i).2 then upd st.at_ (setA m st.c.1 i).1 (now + (setA m st.c.1 i).2) else st.at_) x
    have := hs.t0 x
    unfold setA upd at *
    split
    · dsimp only; split <;> omega
    · exact this
  · show (if 0 < (setA m st.c.1 i).2 then upd st.at_ (setA m st.c.1 i).1 (now + (setA m st.c.1 i).2) else st.at_) x ≤ _
    have := hs.t1 x
    unfold setA upd at *
    split
    · dsimp only; split <;> omega
    · exact this
/-- all timeouts up to a time, as long as there are not too many events -/
def waitS (m : M) (k T : Nat) (lim : Int) : Nat → St → St
  | 0, st => st
  | f + 1, st => if dueF st.c st.at_ lim T < 0 then st else waitS m k T lim f (take m k st (k + (dueF st.c st.at_ lim T).toNat) (st.at_ (dueF st.c st.at_ lim T).toNat))
def waitR (m : M) (k T : Nat) (lim : Int) (st : St) : St := waitS m k T lim (10001 - st.ev.length) st
theorem wait_many {lim : Int} {st : St} (h : 10000 < st.ev.length) : waitR m k T lim st = st := by
  unfold waitR; rw [show 10001 - st.ev.length = 0 by omega]; rfl
theorem wait_done {lim : Int} {st : St} (h : dueF st.c st.at_ lim T < 0) : waitR m k T lim st = st := by
  unfold waitR
  cases 10001 - st.ev.length with
  | zero => rfl
  | succ f => unfold waitS; rw [if_pos h]
theorem wait_go {lim : Int} {st : St} {x : Nat} (h : ¬ 10000 < st.ev.length) (hd : dueF st.c st.at_ lim T = x) : waitR m k T lim st = waitR m k T lim (take m k st (k + x) (st.at_ x)) := by
  have hl : (take m k st (k + x) (st.at_ x)).ev.length = st.ev.length + 1 := by simp [take]
  unfold waitR
  rw [hl, show 10001 - st.ev.length = (10001 - (st.ev.length + 1)) + 1 by omega]
  conv => lhs; unfold waitS
  rw [hd, if_neg (by omega), Int.toNat_natCast]
/-- the time at the symbol j of a timed word; its symbol -/
def nowT (w : List (Int × Int)) : Nat → Int
  | 0 => 0
  | j + 1 => nowT w j + (w.getD j (0, 0)).1
def inp (w : List (Int × Int)) (j : Nat) : Nat := (w.getD j (0, 0)).2.toNat
def tickE (I : Int) (w : List (Int × Int)) (j : Nat) : Int :=
  if (w.getD j (0, 0)).1 < 0 ∨ top < (w.getD j (0, 0)).1 ∨ top < nowT w j + (w.getD j (0, 0)).1 then 2 else if (w.getD j (0, 0)).2 < 0 ∨ I ≤ (w.getD j (0, 0)).2 then 1 else 0
/-- the error of a timed word and an end -/
def wordE (I : Int) (w : List (Int × Int)) (en : Int) : Int :=
  if 1024 < w.length then 3 else if firstE (tickE I w) w.length ≠ 0 then firstE (tickE I w) w.length else if en < nowT w w.length ∨ top < en then 2 else 0
/-- what a permitted timed word is -/
structure WordOk (k : Nat) (w : List (Int × Int)) (en : Int) : Prop where
  len : w.length ≤ 1024
  d0 : ∀ j, j < w.length → 0 ≤ (w.getD j (0, 0)).1
  i0 : ∀ j, j < w.length → (w.getD j (0, 0)).2 = (inp w j : Int)
  i1 : ∀ j, j < w.length → inp w j < k
  n1 : ∀ j, j ≤ w.length → nowT w j ≤ en
  e1 : en ≤ top
theorem tick0 {I : Int} {w : List (Int × Int)} {j : Nat} (h : tickE I w j = 0) : 0 ≤ (w.getD j (0, 0)).1 ∧ nowT w (j + 1) ≤ top ∧ 0 ≤ (w.getD j (0, 0)).2 ∧ (w.getD j (0, 0)).2 < I := by
  unfold tickE at h
  show _ ∧ nowT w j + (w.getD j (0, 0)).1 ≤ top ∧ _
  split at h
  · omega
  · split at h
    · omega
    · omega
theorem now_mono {w : List (Int × Int)} (h : ∀ j, j < w.length → 0 ≤ (w.getD j (0, 0)).1) {a b : Nat} (hab : a ≤ b) (hb : b ≤ w.length) : nowT w a ≤ nowT w b := by
  induction b with
  | zero => have : a = 0 := by omega
            subst this; omega
  | succ b ih =>
    by_cases e : a = b + 1
    · subst e; omega
    · have := ih (by omega) (by omega)
      have h2 := h b (by omega)
      show _ ≤ nowT w b + _
      omega
theorem word_ok {w : List (Int × Int)} {en : Int} (h : wordE (k : Int) w en = 0) : WordOk k w en := by
  unfold wordE at h
  by_cases h1 : 1024 < w.length
  · rw [if_pos h1] at h; omega
  rw [if_neg h1] at h
  by_cases h2 : firstE (tickE (k : Int) w) w.length ≠ 0
  · rw [if_pos h2] at h; omega
  rw [if_neg h2] at h
  by_cases h3 : en < nowT w w.length ∨ top < en
  · rw [if_pos h3] at h; omega
  have hz := firstE_of_zero (show firstE (tickE (k : Int) w) w.length = 0 by omega)
  have hd : ∀ j, j < w.length → 0 ≤ (w.getD j (0, 0)).1 := fun j hj => (tick0 (hz j hj)).1
  refine ⟨by omega, hd, fun j hj => ?_, fun j hj => ?_, fun j hj => ?_, by omega⟩
  · have := tick0 (hz j hj); unfold inp; omega
  · have := tick0 (hz j hj); unfold inp; omega
  · have := now_mono hd hj (Nat.le_refl _); omega
theorem WordOk.now0 {w : List (Int × Int)} {en : Int} (h : WordOk k w en) {j : Nat} (hj : j ≤ w.length) : 0 ≤ nowT w j := now_mono h.d0 (Nat.zero_le j) hj
/-- the inputs i .. i + j - 1 of a timed word: the execution behind them; none: too many events -/
def runI (m : M) (k T : Nat) (w : List (Int × Int)) : Nat → Nat → St → Option St
  | 0, _, st => some st
  | j + 1, i, st => if 10000 < (waitR m k T (nowT w (i + 1)) st).ev.length then none else runI m k T w j (i + 1) (take m k (waitR m k T (nowT w (i + 1)) st) (inp w i) (nowT w (i + 1)))
def stop (m : M) (k T : Nat) (en : Int) : Option St → Int × List Ev
  | none => (11, [])
  | some st => if 10000 < (waitR m k T en st).ev.length then (11, []) else (0, (waitR m k T en st).ev)
theorem stop_at (en : Int) (st : St) : stop m k T en (some st) = if 10000 < (waitR m k T en st).ev.length then (11, []) else (0, (waitR m k T en st).ev) := rfl
def s0 (S T : Nat) : St := ⟨c0 S T, fun _ => 0, []⟩
/-- the events of a timed word up to an end -/
def runV (m : M) (k T S : Nat) (w : List (Int × Int)) (en : Int) : Int × List Ev := stop m k T en (runI m k T w w.length 0 (s0 S T))
theorem s0_ok (h : Ok m k T S) : StOk m T (s0 S T) := ⟨c0_ok h, fun _ => by show (0 : Int) ≤ 0; omega, fun _ => by show (0 : Int) ≤ _; unfold top; omega⟩
/-- what holds in an execution: R the result; the inputs up to i are taken -/
structure Ex (m : M) (k T : Nat) (w : List (Int × Int)) (en : Int) (R : Int × List Ev) (i : Nat) (st : St) : Prop where
  ok : StOk m T st
  le : i ≤ w.length
  len : st.ev.length ≤ 10001
  res : stop m k T en (runI m k T w (w.length - i) i st) = R
/-- the time up to which the code waits -/
def lim (w : List (Int × Int)) (en : Int) (i : Nat) : Int := if i < w.length then nowT w (i + 1) else en
theorem lim_bd {w : List (Int × Int)} {en : Int} (h : WordOk k w en) {i : Nat} : 0 ≤ lim w en i ∧ lim w en i ≤ top := by
  have e1 := h.e1
  have e2 := h.n1 w.length (Nat.le_refl _)
  have e3 := h.now0 (Nat.le_refl w.length)
  unfold lim
  split
  · rename_i hl
    have := h.n1 (i + 1) hl
    have := h.now0 (j := i + 1) hl
    omega
  · omega
theorem Ex.start (h : Ok m k T S) (w : List (Int × Int)) (en : Int) : Ex m k T w en (runV m k T S w en) 0 (s0 S T) := ⟨s0_ok h, Nat.zero_le _, by simp [s0], rfl⟩
theorem Ex.tail {w : List (Int × Int)} {en : Int} {R : Int × List Ev} {i : Nat} {st st' : St} (e : Ex m k T w en R i st) (hst : StOk m T st') (hl : st'.ev.length ≤ 10001) (h : waitR m k T (lim w en i) st = waitR m k T (lim w en i) st') : Ex m k T w en R i st' := by
  refine ⟨hst, e.le, hl, ?_⟩
  rw [← e.res]
  by_cases hi : i < w.length
  · have el : lim w en i = nowT w (i + 1) := by unfold lim; rw [if_pos hi]
    rw [el] at h
    rw [show w.length - i = (w.length - (i + 1)) + 1 by omega]
    unfold runI
    rw [h]
  · have el : lim w en i = en := by unfold lim; rw [if_neg hi]
    rw [el] at h
    rw [show w.length - i = 0 by omega]
    show stop m k T en (some st') = stop m k T en (some st)
    rw [stop_at, stop_at, h]
/-- a timeout -/
theorem Ex.wait (h : Ok m k T S) {w : List (Int × Int)} {en : Int} (hw : WordOk k w en) {R : Int × List Ev} {i : Nat} {st : St} (e : Ex m k T w en R i st) {x : Nat} (hl : ¬ 10000 < st.ev.length) (hd : dueF st.c st.at_ (lim w en i) T = x) :
    x < T ∧ st.c.2.getD x false = true ∧ st.at_ x ≤ lim w en i ∧ Ex m k T w en R i (take m k st (k + x) (st.at_ x)) := by
  have hdf := due_first st.c st.at_ (lim w en i) T
  rw [hd] at hdf
  by_cases hc : firstF st.c st.at_ T < 0 ∨ lim w en i < st.at_ (firstF st.c st.at_ T).toNat
  · rw [if_pos hc] at hdf; omega
  rw [if_neg hc] at hdf
  rw [← hdf] at hc
  rw [Int.toNat_natCast] at hc
  have hr := first_run st.c st.at_ T
  rw [← hdf] at hr
  rcases hr with hr | ⟨_, h2, h3⟩
  · omega
  rw [Int.toNat_natCast] at h3
  have hb := lim_bd (i := i) hw
  refine ⟨by omega, h3, by omega, e.tail (e.ok.take h (by omega) (e.ok.t0 x) (by omega)) (by simp [take]; omega) (wait_go hl hd)⟩
/-- an input -/
theorem Ex.input (h : Ok m k T S) {w : List (Int × Int)} {en : Int} (hw : WordOk k w en) {R : Int × List Ev} {i : Nat} {st : St} (e : Ex m k T w en R i st) (hl : ¬ 10000 < st.ev.length) (hd : dueF st.c st.at_ (nowT w (i + 1)) T < 0) (hi : i < w.length) :
    Ex m k T w en R (i + 1) (take m k st (inp w i) (nowT w (i + 1))) := by
  have hb := hw.n1 (i + 1) hi
  have hb2 := hw.e1
  have h1 := hw.i1 i hi
  refine ⟨e.ok.take h (by omega) (hw.now0 hi) (by omega), hi, by simp [take]; omega, ?_⟩
  rw [← e.res, show w.length - i = (w.length - (i + 1)) + 1 by omega]
  conv => rhs; unfold runI
  rw [wait_done hd, if_neg hl]
/-- too many events -/
theorem Ex.many {w : List (Int × Int)} {en : Int} {R : Int × List Ev} {i : Nat} {st : St} (e : Ex m k T w en R i st) (hl : 10000 < st.ev.length) : R = (11, []) := by
  rw [← e.res]
  cases hj : w.length - i with
  | zero => 
    show stop m k T en (some st) = _
    rw [stop_at, wait_many hl, if_pos hl]
  | succ j =>
    unfold runI
    rw [wait_many hl, if_pos hl]; rfl
theorem Ex.fin {w : List (Int × Int)} {en : Int} {R : Int × List Ev} {i : Nat} {st : St} (e : Ex m k T w en R i st) (hl : ¬ 10000 < st.ev.length) (hd : dueF st.c st.at_ en T < 0) (hi : ¬ i < w.length) : R = (0, st.ev) := by
  rw [← e.res, show w.length - i = 0 by omega]
  show stop m k T en (some st) = _
  rw [stop_at, wait_done hd, if_neg hl]
end
end Go.Proofs.Ytpcoddbkcelaoaa.Tm
