/- Plain law of the events of a timed word: times do not fall, the inputs' events are the ticks, outputs follow the configurations; a longer run goes on from a shorter one. -/
import Derived.Test.YtpcoddbkcelaoaaTim4
namespace Go.Proofs.Ytpcoddbkcelaoaa.Tm
open Mea

/-- events that follow a time, a configuration and a number of ticks taken -/
def Tr (m : M) (k T : Nat) (wd : List (Int × Int)) (en : Int) : List Ev → Int → Cfg → Nat → Prop
  | [], _, _, i => i = wd.length
  | e :: t, now, c, i => now ≤ e.1 ∧ e.1 ≤ en ∧ ∃ s : Nat, s < k + T ∧ e.2.1 = (s : Int) ∧ e.2.2 = outA m c.1 s ∧ poss k c s = true ∧
      if s < k then i < wd.length ∧ inp wd i = s ∧ e.1 = nowT wd (i + 1) ∧ Tr m k T wd en t e.1 (aftC m k c s) (i + 1) else Tr m k T wd en t e.1 (aftC m k c s) i
/-- nothing that runs is before b -/
def Low (b : Int) (st : St) : Prop := ∀ x, st.c.2.getD x false = true → b ≤ st.at_ x
theorem Low.weak {a b : Int} {st : St} (h : Low b st) (hab : a ≤ b) : Low a st := fun x hx => by have := h x hx; omega
theorem Tr.weak {m : M} {k T : Nat} {wd : List (Int × Int)} {en : Int} {t : List Ev} {a b : Int} {c : Cfg} {i : Nat} (h : Tr m k T wd en t b c i) (hab : a ≤ b) : Tr m k T wd en t a c i := by
  cases t with
  | nil => exact h
  | cons e t => exact ⟨Int.le_trans hab h.1, h.2⟩
section
variable {m : M} {k T S : Nat} {wd : List (Int × Int)} {en : Int}
theorem run_lt {st : St} (hs : StOk m T st) {x : Nat} (h : st.c.2.getD x false = true) : x < T := by
  rcases Nat.lt_or_ge x st.c.2.length with hl | hl
  · rw [← hs.c.2]; exact hl
  · rw [List.getD_eq_getElem?_getD, List.getElem?_eq_none hl] at h; simp at h
/-- the timer that is due -/
theorem due_is {st : St} {lim : Int} (hs : StOk m T st) (h : ¬ dueF st.c st.at_ lim T < 0) : ∃ x : Nat, dueF st.c st.at_ lim T = x ∧ x < T ∧ st.c.2.getD x false = true ∧ st.at_ x ≤ lim ∧ Low (st.at_ x) st := by
  have hdf := due_first st.c st.at_ lim T
  by_cases hc : firstF st.c st.at_ T < 0 ∨ lim < st.at_ (firstF st.c st.at_ T).toNat
  · rw [if_pos hc] at hdf; omega
  rw [if_neg hc] at hdf
  rcases first_run st.c st.at_ T with hr | ⟨h1, h2, h3⟩
  · omega
  refine ⟨(firstF st.c st.at_ T).toNat, by omega, by omega, h3, by omega, fun x hx => (first_min st.c st.at_ T x (run_lt hs hx) hx).2⟩
theorem due_none {st : St} {lim : Int} (hs : StOk m T st) (h : dueF st.c st.at_ lim T < 0) : Low (lim + 1) st := by
  intro x hx
  have hdf := due_first st.c st.at_ lim T
  obtain ⟨h1, h2⟩ := first_min st.c st.at_ T x (run_lt hs hx) hx
  by_cases hc : firstF st.c st.at_ T < 0 ∨ lim < st.at_ (firstF st.c st.at_ T).toNat
  · omega
  · rw [if_neg hc] at hdf; omega
theorem Low.take {st : St} {i : Nat} {now : Int} (hl : Low now st) : Low now (take m k st i now) := by
  intro x hx
  have hx' : (aftC m k st.c i).2.getD x false = true := hx
  show now ≤ (if 0 < (setA m st.c.1 i).2 then upd st.at_ (setA m st.c.1 i).1 (now + (setA m st.c.1 i).2) else st.at_) x
  rcases aft_run hx' with ⟨h1, h2, h3⟩ | ⟨h1, h2⟩
  · rw [if_pos h1]; unfold upd; rw [if_pos ⟨h2, h3⟩]; omega
  · split
    · unfold upd; rw [if_neg h1]; exact hl x h2
    · exact hl x h2
/-- the timeouts up to a limit -/
theorem wait_tr (h : Ok m k T S) {lim : Int} (htop : lim ≤ top) (hen : lim ≤ en) : ∀ (f : Nat) (st : St) (b : Int), StOk m T st → Low b st →
    ∃ t b', (waitS m k T lim f st).ev = st.ev ++ t ∧ b ≤ b' ∧ (b' = b ∨ b' ≤ lim) ∧ StOk m T (waitS m k T lim f st) ∧ Low b' (waitS m k T lim f st) ∧ (∀ e ∈ t, b ≤ e.1) ∧ (∀ t2 i, Tr m k T wd en t2 b' (waitS m k T lim f st).c i → Tr m k T wd en (t ++ t2) b st.c i)
  | 0, st, b, hs, hl => ⟨[], b, (List.append_nil _).symm, Int.le_refl _, .inl rfl, hs, hl, (fun e he => absurd he (List.not_mem_nil)), fun t2 i ht => ht⟩
  | f + 1, st, b, hs, hl => by
    unfold waitS
    by_cases hd : dueF st.c st.at_ lim T < 0
    · rw [if_pos hd]
      exact ⟨[], b, (List.append_nil _).symm, Int.le_refl _, .inl rfl, hs, hl, (fun e he => absurd he (List.not_mem_nil)), fun t2 i ht => ht⟩
    · rw [if_neg hd]
      obtain ⟨x, hx, hxT, hrun, hle, hlow⟩ := due_is hs hd
      rw [hx, Int.toNat_natCast]
      have hb := hl x hrun
      have hs1 := hs.take h (i := k + x) (now := st.at_ x) (by omega) (hs.t0 x) (by omega)
      have hl1 := hlow.take (m := m) (k := k) (i := k + x)
      obtain ⟨t, b', he, hbb, hb2, hs', hl', hall, htr⟩ := wait_tr h htop hen f _ _ hs1 hl1
      refine ⟨evt m st.c (k + x) (st.at_ x) :: t, b', ?_, by omega, ?_, hs', hl', ?_, ?_⟩
      · rw [he]; show st.ev ++ [_] ++ t = _; simp
      · rcases hb2 with e | e
        · right; omega
        · exact .inr e
      · intro e he'
        rcases List.mem_cons.1 he' with rfl | h2
        · exact hb
        · have := hall e h2; omega
      · intro t2 i ht
        refine ⟨hb, by show st.at_ x ≤ en; omega, k + x, by omega, rfl, rfl, ?_, ?_⟩
        · unfold poss; rw [show k + x - k = x by omega, hrun]; simp
        · rw [if_neg (by omega)]; exact htr t2 i ht
theorem wait_stop {lim : Int} : ∀ (f : Nat) (st : St), 10001 ≤ st.ev.length + f → ¬ 10000 < (waitS m k T lim f st).ev.length → dueF (waitS m k T lim f st).c (waitS m k T lim f st).at_ lim T < 0
  | 0, st, h1, h2 => absurd (show 10000 < st.ev.length by omega) h2
  | f + 1, st, h1, h2 => by
    unfold waitS at h2 ⊢
    by_cases hd : dueF st.c st.at_ lim T < 0
    · rw [if_pos hd]; exact hd
    · rw [if_neg hd] at h2 ⊢
      exact wait_stop f _ (by simp [take]; omega) h2
theorem wait_stopR {lim : Int} {st : St} (h : ¬ 10000 < (waitR m k T lim st).ev.length) : dueF (waitR m k T lim st).c (waitR m k T lim st).at_ lim T < 0 :=
  wait_stop _ st (by omega) h
/-- a longer wait goes on from a shorter one -/
theorem wait_two {l0 l1 : Int} (h01 : l0 ≤ l1) (h : Ok m k T S) (h0 : l0 ≤ top) : ∀ (f : Nat) (st : St), StOk m T st → f = 10001 - st.ev.length → waitR m k T l1 (waitS m k T l0 f st) = waitR m k T l1 st
  | 0, st, _, _ => rfl
  | f + 1, st, hs, hf => by
    unfold waitS
    by_cases hd : dueF st.c st.at_ l0 T < 0
    · rw [if_pos hd]
    · rw [if_neg hd]
      obtain ⟨x, hx, hxT, hrun, hle, hlow⟩ := due_is hs hd
      rw [hx, Int.toNat_natCast]
      have hs1 := hs.take h (i := k + x) (now := st.at_ x) (by omega) (hs.t0 x) (by omega)
      rw [wait_two h01 h h0 f _ hs1 (by simp [take]; omega)]
      · refine (wait_go (by omega) ?_).symm
        have d0 := due_first st.c st.at_ l0 T
        have d1 := due_first st.c st.at_ l1 T
        rw [hx] at d0
        by_cases hc : firstF st.c st.at_ T < 0 ∨ l0 < st.at_ (firstF st.c st.at_ T).toNat
        · rw [if_pos hc] at d0; omega
        · rw [if_neg hc] at d0
          rw [d1, if_neg (by omega), ← d0]
/-- the state after the inputs, and the events until then -/
theorem runI_tr (h : Ok m k T S) (hw : WordOk k wd en) : ∀ (j i : Nat) (st st' : St) (b : Int), StOk m T st → Low b st → i + j = wd.length → (i < wd.length → b ≤ nowT wd (i + 1)) → runI m k T wd j i st = some st' →
    ∃ t b', st'.ev = st.ev ++ t ∧ (b' = b ∨ b' ≤ nowT wd wd.length) ∧ StOk m T st' ∧ Low b' st' ∧ (∀ t2, Tr m k T wd en t2 b' st'.c wd.length → Tr m k T wd en (t ++ t2) b st.c i)
  | 0, i, st, st', b, hs, hl, hi, hb, hr => by
    have e : st = st' := by simpa [runI] using hr
    subst e
    obtain rfl : i = wd.length := by omega
    exact ⟨[], b, (List.append_nil _).symm, .inl rfl, hs, hl, fun t2 ht => ht⟩
  | j + 1, i, st, st', b, hs, hl, hi, hb, hr => by
    unfold runI at hr
    have hil : i < wd.length := by omega
    by_cases hm : 10000 < (waitR m k T (nowT wd (i + 1)) st).ev.length
    · rw [if_pos hm] at hr; cases hr
    rw [if_neg hm] at hr
    have n1 := hw.n1 (i + 1) hil
    have n0 := hw.now0 (j := i + 1) hil
    have et := hw.e1
    obtain ⟨t1, b1, he1, hbb, hb2, hs1, hl1, -, htr1⟩ := wait_tr (en := en) (wd := wd) h (lim := nowT wd (i + 1)) (by omega) n1 (10001 - st.ev.length) st b hs hl
    have hd := due_none hs1 (wait_stopR hm)
    have hlow : Low (nowT wd (i + 1)) (waitR m k T (nowT wd (i + 1)) st) := hd.weak (by omega)
    have hin := hw.i1 i hil
    have hb1 : b1 ≤ nowT wd (i + 1) := by
      have := hb hil
      rcases hb2 with e | e <;> omega
    have hs2 := StOk.take h hs1 (i := inp wd i) (now := nowT wd (i + 1)) (by omega) n0 (by omega)
    have hl2 := Low.take (m := m) (k := k) (i := inp wd i) hlow
    obtain ⟨t2, b2, he2, hb3, hs3, hl3, htr2⟩ := runI_tr h hw j (i + 1) _ st' _ hs2 hl2 (by omega) (fun hlt => now_mono hw.d0 (Nat.le_succ _) hlt) hr
    refine ⟨t1 ++ evt m (waitR m k T (nowT wd (i + 1)) st).c (inp wd i) (nowT wd (i + 1)) :: t2, b2, ?_, ?_, hs3, hl3, fun t3 ht => ?_⟩
    · rw [he2]
      show (waitS m k T (nowT wd (i + 1)) (10001 - st.ev.length) st).ev ++ [_] ++ t2 = _
      rw [he1]; simp; rfl
    · have := now_mono hw.d0 (show i + 1 ≤ wd.length from hil) (Nat.le_refl _)
      right; rcases hb3 with e | e <;> omega
    · rw [List.append_assoc]
      refine htr1 _ i ?_
      refine ⟨hb1, n1, inp wd i, by omega, rfl, rfl, ?_, ?_⟩
      · unfold poss; simp [hin]
      · rw [if_pos hin]
        exact ⟨hil, rfl, rfl, htr2 t3 ht⟩
theorem runV_tr (h : Ok m k T S) (hw : WordOk k wd en) {L : List Ev} (hr : runV m k T S wd en = (0, L)) : Tr m k T wd en L 0 (c0 S T) 0 := by
  unfold runV at hr
  cases hI : runI m k T wd wd.length 0 (s0 S T) with
  | none => rw [hI] at hr; exact absurd (congrArg Prod.fst hr) (by show (11 : Int) ≠ 0; omega)
  | some st =>
    rw [hI, stop_at] at hr
    by_cases hm : 10000 < (waitR m k T en st).ev.length
    · rw [if_pos hm] at hr; exact absurd (congrArg Prod.fst hr) (by show (11 : Int) ≠ 0; omega)
    rw [if_neg hm] at hr
    have hL : (waitR m k T en st).ev = L := congrArg Prod.snd hr
    have n0 : Low 0 (s0 S T) := fun x _ => Int.le_refl 0
    obtain ⟨t, b, he, hb, hs, hl, htr⟩ := runI_tr h hw wd.length 0 _ st 0 (s0_ok h) n0 (by omega) (fun hlt => hw.now0 hlt) hI
    obtain ⟨t1, b1, he1, hbb, hb2, hs1, hl1, -, htr1⟩ := wait_tr (en := en) (wd := wd) h (lim := en) hw.e1 (Int.le_refl _) (10001 - st.ev.length) st b hs hl
    have he0 : st.ev = t := by rw [he]; rfl
    have := htr _ (htr1 [] wd.length rfl)
    rw [List.append_nil, ← he0, ← he1] at this
    rw [← hL]; exact this
theorem Tr.until {t : List Ev} {b : Int} {c : Cfg} {i : Nat} (h : Tr m k T wd en t b c i) : ∀ e ∈ t, e.1 ≤ en := by
  induction t generalizing b c i with
  | nil => intro e he; cases he
  | cons e t ih =>
    intro x hx
    obtain ⟨h1, h2, s, _, _, _, _, h3⟩ := h
    rcases List.mem_cons.1 hx with rfl | hx
    · exact h2
    · by_cases hs : s < k
      · rw [if_pos hs] at h3; exact ih h3.2.2.2 x hx
      · rw [if_neg hs] at h3; exact ih h3 x hx
/-- a longer run goes on from a shorter one -/
theorem runV_ends (h : Ok m k T S) {e0 e1 : Int} (h01 : e0 ≤ e1) (hw0 : WordOk k wd e0) (hw1 : WordOk k wd e1) {A B : List Ev} (h0 : runV m k T S wd e0 = (0, A)) (h1 : runV m k T S wd e1 = (0, B)) :
    ∃ t, B = A ++ t ∧ (∀ e ∈ A, e.1 ≤ e0) ∧ ∀ e ∈ t, e0 < e.1 := by
  have hA := (runV_tr h hw0 h0).until
  unfold runV at h0 h1
  cases hI : runI m k T wd wd.length 0 (s0 S T) with
  | none => rw [hI] at h0; exact absurd (congrArg Prod.fst h0) (by show (11 : Int) ≠ 0; omega)
  | some st =>
    rw [hI, stop_at] at h0 h1
    by_cases hm : 10000 < (waitR m k T e0 st).ev.length
    · rw [if_pos hm] at h0; exact absurd (congrArg Prod.fst h0) (by show (11 : Int) ≠ 0; omega)
    rw [if_neg hm] at h0
    by_cases hm1 : 10000 < (waitR m k T e1 st).ev.length
    · rw [if_pos hm1] at h1; exact absurd (congrArg Prod.fst h1) (by show (11 : Int) ≠ 0; omega)
    rw [if_neg hm1] at h1
    have hLA : (waitR m k T e0 st).ev = A := congrArg Prod.snd h0
    have hLB : (waitR m k T e1 st).ev = B := congrArg Prod.snd h1
    have n0 : Low 0 (s0 S T) := fun x _ => Int.le_refl 0
    obtain ⟨t, b, he, hb, hs, hl, -⟩ := runI_tr h hw0 wd.length 0 _ st 0 (s0_ok h) n0 (by omega) (fun hlt => hw0.now0 hlt) hI
    obtain ⟨t1, b1, he1, hbb, hb2, hs1, hl1, -⟩ := wait_tr (en := e0) (wd := wd) h (lim := e0) hw0.e1 (Int.le_refl _) (10001 - st.ev.length) st b hs hl
    have hd := due_none hs1 (wait_stopR hm)
    have htwo := wait_two h01 h hw0.e1 (10001 - st.ev.length) st hs rfl
    have e2 : waitR m k T e1 (waitR m k T e0 st) = waitR m k T e1 st := htwo
    obtain ⟨t2, b2, he3, -, -, -, -, hall, -⟩ := wait_tr (en := e1) (wd := wd) h (lim := e1) hw1.e1 (Int.le_refl _) (10001 - (waitR m k T e0 st).ev.length) (waitR m k T e0 st) (e0 + 1) hs1 hd
    refine ⟨t2, ?_, hA, fun e he => by have := hall e he; omega⟩
    rw [← hLA, ← hLB, ← e2]
    exact he3
/-! ### what a law sees -/
/-- times do not fall; the events of inputs are the ticks -/
def TimOk (I : Int) (wd : List (Int × Int)) (en : Int) : List Ev → Int → Nat → Prop
  | [], _, i => i = wd.length
  | e :: t, now, i => now ≤ e.1 ∧ e.1 ≤ en ∧ (e.2.1 < I → i < wd.length ∧ (wd.getD i (0, 0)).2 = e.2.1 ∧ e.1 = nowT wd (i + 1) ∧ TimOk I wd en t e.1 (i + 1)) ∧ (¬ e.2.1 < I → TimOk I wd en t e.1 i)
theorem Tr.tim (hw : WordOk k wd en) {t : List Ev} {b : Int} {c : Cfg} {i : Nat} (h : Tr m k T wd en t b c i) : TimOk (k : Int) wd en t b i := by
  induction t generalizing b c i with
  | nil => exact h
  | cons e t ih =>
    obtain ⟨h1, h2, s, _, hs, _, _, h3⟩ := h
    refine ⟨h1, h2, fun hlt => ?_, fun hlt => ?_⟩
    · rw [if_pos (by omega)] at h3
      exact ⟨h3.1, by rw [hw.i0 i h3.1, h3.2.1, hs], h3.2.2.1, ih h3.2.2.2⟩
    · rw [if_neg (by omega)] at h3
      exact ih h3
/-- the machine without time answers the events -/
def FolOk (n : Nat) (K : Int) (nx out : List (List Int)) : List Ev → Nat → Prop
  | [], _ => True
  | e :: t, s => 0 ≤ e.2.1 ∧ e.2.1 < n ∧ s < nx.length ∧ 1 ≤ (out.getD s []).getD e.2.1.toNat 0 ∧ ((out.getD s []).getD e.2.1.toNat 0 - 1).tdiv K = e.2.2 ∧ ∃ s', (nx.getD s []).getD e.2.1.toNat 0 = (s' : Nat) ∧ s' < nx.length ∧ FolOk n K nx out t s'
theorem Tr.fol (hm : Ok m k T S) {q : List Cfg} {nx out : List (List Int)} {R : Int × List (List Int) × List (List Int)} {a : Nat} (hu : USea m k T S R a q nx out) (ha : ¬ a < q.length) {t : List Ev} {b : Int} {c : Cfg} {i s : Nat} (h : Tr m k T wd en t b c i) (hs : q[s]? = some c) : FolOk (k + T) (1 + (T : Int) * 1001) nx out t s := by
  induction t generalizing b c i s with
  | nil => trivial
  | cons e t ih =>
    obtain ⟨h1, h2, x, hx, hsx, ho, hp, h3⟩ := h
    have hsl : s < q.length := by
      rcases Nat.lt_or_ge s q.length with hl | hl
      · exact hl
      · rw [List.getElem?_eq_none hl] at hs; cases hs
    have hle := hu.le
    have hln := hu.ln
    obtain ⟨r1, r2⟩ := hu.rows s c (by omega) hs
    obtain ⟨g1, g2⟩ := r2.hit x (by omega) hp
    have g3 := r2.all x (by omega)
    have hc : CfgOk m.nx.length T c := hu.good.ok c (List.mem_of_getElem? hs)
    have ex : e.2.1.toNat = x := by omega
    have hN := aftN_bd hm hc hx
    have ho0 := (hm.cell c.1 x hc.1 hx).o0
    have hu0 := (uO_0 hm hc hx).1
    have hK : (0 : Int) < 1 + (T : Int) * 1001 := by omega
    refine ⟨by omega, by omega, by omega, by rw [ex, g2]; exact hu0, ?_, ((nx.getD s []).getD x 0).toNat, by rw [ex]; omega, by omega, ?_⟩
    · rw [ex, g2, ho]
      unfold uO
      have e1 : 1 + outA m c.1 x * (1 + (T : Int) * 1001) + aftN m k c x - 1 = aftN m k c x + outA m c.1 x * (1 + (T : Int) * 1001) := by omega
      have h0 : 0 ≤ outA m c.1 x * (1 + (T : Int) * 1001) := Int.mul_nonneg ho0 (by omega)
      rw [e1, Int.tdiv_eq_ediv_of_nonneg (by omega), Int.add_mul_ediv_right _ _ (by omega), Int.ediv_eq_zero_of_lt (by omega) (by omega)]
      omega
    · by_cases hk : x < k
      · rw [if_pos hk] at h3; exact ih h3.2.2.2 g1
      · rw [if_neg hk] at h3; exact ih h3 g1
end
end Go.Proofs.Ytpcoddbkcelaoaa.Tm
