/-
  All marks of bytes, plainly, and the laws on them.
-/
import Derived.Test.YtkflnbmbkilicaaDoorLexMore
namespace Go.Proofs.YtkflnbmbkilicaaDoor

/-- A mark at its place. -/
structure Mk where
  k : Int
  a : Nat
  z : Nat
  n : Int
  t : List UInt8
def Tok.at (x : Tok) (p : Nat) : Mk := ⟨x.k, p, p + x.len, x.n, x.t⟩
def Mk.far (m : Mk) (d : Nat) : Mk := ⟨m.k, m.a + d, m.z + d, m.n, m.t⟩
abbrev Res := List Mk × Nat × Int
def consM (ms : List Mk) (R : Res) : Res := if R.2.2 ≠ 0 then ([], R.2.1, R.2.2) else (ms ++ R.1, 0, 0)
def tokB (l : List UInt8) : Tok := tokP (l.drop (blanks l))
def allGo : Nat → List UInt8 → Nat → Res
  | 0, _, _ => ([], 0, 4)
  | f + 1, l, p =>
    if (tokB l).e ≠ 0 then ([], p + blanks l, (tokB l).e)
    else if (tokB l).k = 11 then ([(tokB l).at (p + blanks l)], 0, 0)
    else consM [(tokB l).at (p + blanks l)] (allGo f (l.drop (blanks l + (tokB l).len)) (p + blanks l + (tokB l).len))
def allP (l : List UInt8) (p : Nat) : Res := allGo (l.length + 1) l p

theorem consM_nil (R : Res) (h : R.2.2 = 0 → R.2.1 = 0) (h2 : R.2.2 ≠ 0 → R.1 = []) : consM [] R = R := by
  unfold consM
  obtain ⟨a, b, c⟩ := R
  by_cases e : c ≠ 0
  · rw [if_pos e]; simp at h2 ⊢; exact h2 e
  · rw [if_neg e]
    have e0 : c = 0 := by simpa using e
    subst e0
    simp at h ⊢
    exact h.symm
theorem consM_consM (a b : List Mk) (R : Res) : consM a (consM b R) = consM (a ++ b) R := by
  unfold consM
  by_cases e : R.2.2 ≠ 0
  · rw [if_pos e, if_pos e, if_pos e]
  · rw [if_neg e, if_neg e, if_neg (by simp), List.append_assoc]
theorem consM_err (a : List Mk) (R : Res) : (consM a R).2.2 = R.2.2 := by
  unfold consM
  by_cases e : R.2.2 ≠ 0
  · rw [if_pos e]
  · rw [if_neg e]; simpa using (show R.2.2 = 0 by simpa using e).symm
theorem blanks_le (l : List UInt8) : blanks l ≤ l.length := tw_len l
theorem blanks_head (l : List UInt8) : ∀ c r, l.drop (blanks l) = c :: r → isBlank c = false := by
  induction l with
  | nil => intro c r h; cases h
  | cons a l ih =>
    intro c r h
    unfold blanks at h ih
    by_cases ha : isBlank a = true
    · rw [List.takeWhile_cons, if_pos ha, List.length_cons, List.drop_succ_cons] at h
      exact ih c r h
    · rw [List.takeWhile_cons, if_neg ha] at h
      simp at h
      rw [← h.1]; simpa using ha
theorem blanks_zero {c : UInt8} (r : List UInt8) (h : isBlank c = false) : blanks (c :: r) = 0 := by simp [blanks, h]
theorem blanks_all (b : List UInt8) (h : ∀ c ∈ b, isBlank c = true) (l : List UInt8) : blanks (b ++ l) = b.length + blanks l := by
  induction b with
  | nil => simp
  | cons c b ih =>
    have := ih (fun x hx => h x (by simp [hx]))
    unfold blanks at this ⊢
    rw [List.cons_append, List.takeWhile_cons, if_pos (h c (by simp)), List.length_cons, this, List.length_cons]
    omega
theorem blanks_take (l : List UInt8) : ∀ c ∈ l.take (blanks l), isBlank c = true := by
  unfold blanks
  rw [tw_take]
  exact fun c hc => List.all_eq_true.1 List.all_takeWhile c hc
theorem blanks_split (l : List UInt8) : l = l.take (blanks l) ++ l.drop (blanks l) := (List.take_append_drop _ _).symm
theorem tokP_nil : tokP [] = ⟨11, 0, 0, [], 0⟩ := rfl
/-- The end, or not. -/
theorem tok_end {l : List UInt8} (h : (tokP l).e = 0) : (tokP l).k = 11 ↔ l = [] := by
  constructor
  · intro hk
    by_cases hl : l = []
    · exact hl
    · have := tokP_ok hl h; omega
  · rintro rfl; rfl
theorem allGo_fuel : ∀ (f g : Nat) (l : List UInt8) (p : Nat), l.length < f → l.length < g → allGo f l p = allGo g l p
  | 0, _, _, _, h, _ => by omega
  | _ + 1, 0, _, _, _, h => by omega
  | f + 1, g + 1, l, p, hf, hg => by
    rw [allGo, allGo]
    by_cases h1 : (tokB l).e ≠ 0
    · rw [if_pos h1, if_pos h1]
    · rw [if_neg h1, if_neg h1]
      by_cases h2 : (tokB l).k = 11
      · rw [if_pos h2, if_pos h2]
      · rw [if_neg h2, if_neg h2]
        have h0 : (tokB l).e = 0 := by simpa using h1
        have hne : l.drop (blanks l) ≠ [] := fun e => h2 (by unfold tokB; rw [e]; rfl)
        obtain ⟨a, b, _⟩ := tokP_ok hne h0
        rw [List.length_drop] at b
        have a' : 1 ≤ (tokB l).len := a
        have b' : (tokB l).len ≤ l.length - blanks l := b
        rw [allGo_fuel f g _ _ (by rw [List.length_drop]; omega) (by rw [List.length_drop]; omega)]
theorem allP_step (l : List UInt8) (p : Nat) : allP l p =
    if (tokB l).e ≠ 0 then ([], p + blanks l, (tokB l).e)
    else if (tokB l).k = 11 then ([(tokB l).at (p + blanks l)], 0, 0)
    else consM [(tokB l).at (p + blanks l)] (allP (l.drop (blanks l + (tokB l).len)) (p + blanks l + (tokB l).len)) := by
  rw [allP, allGo]
  by_cases h1 : (tokB l).e ≠ 0
  · rw [if_pos h1, if_pos h1]
  · rw [if_neg h1, if_neg h1]
    by_cases h2 : (tokB l).k = 11
    · rw [if_pos h2, if_pos h2]
    · rw [if_neg h2, if_neg h2]
      have h0 : (tokB l).e = 0 := by simpa using h1
      have hne : l.drop (blanks l) ≠ [] := fun e => h2 (by unfold tokB; rw [e]; rfl)
      obtain ⟨a, b, _⟩ := tokP_ok hne h0
      rw [List.length_drop] at b
      have a' : 1 ≤ (tokB l).len := a
      have b' : (tokB l).len ≤ l.length - blanks l := b
      rw [allP, allGo_fuel l.length _ _ _ (by rw [List.length_drop]; omega) (Nat.lt_succ_self _)]
/-- What stands at the head: an error, the end, or a mark. -/
theorem all_cases (l : List UInt8) (p : Nat) :
    ((tokB l).e ≠ 0 ∧ allP l p = ([], p + blanks l, (tokB l).e)) ∨
    (l.drop (blanks l) = [] ∧ blanks l = l.length ∧ allP l p = ([⟨11, p + l.length, p + l.length, 0, []⟩], 0, 0)) ∨
    (l.drop (blanks l) ≠ [] ∧ (tokB l).e = 0 ∧ (tokB l).k ≠ 11 ∧ 1 ≤ (tokB l).len ∧ blanks l + (tokB l).len ≤ l.length ∧
      allP l p = consM [(tokB l).at (p + blanks l)] (allP (l.drop (blanks l + (tokB l).len)) (p + blanks l + (tokB l).len))) := by
  rw [allP_step]
  by_cases h1 : (tokB l).e ≠ 0
  · left; rw [if_pos h1]; exact ⟨h1, rfl⟩
  · right
    rw [if_neg h1]
    have h0 : (tokB l).e = 0 := by simpa using h1
    by_cases h2 : (tokB l).k = 11
    · left
      rw [if_pos h2]
      have e := (tok_end h0).1 h2
      have e2 : blanks l = l.length := by
        have := congrArg List.length e
        rw [List.length_drop, List.length_nil] at this
        have := blanks_le l
        omega
      refine ⟨e, e2, ?_⟩
      unfold tokB Tok.at
      rw [e, tokP_nil, e2]; rfl
    · right
      rw [if_neg h2]
      have hne : l.drop (blanks l) ≠ [] := fun e => h2 (by unfold tokB; rw [e]; rfl)
      obtain ⟨a, b, _⟩ := tokP_ok hne h0
      rw [List.length_drop] at b
      have a' : 1 ≤ (tokB l).len := a
      have b' : (tokB l).len ≤ l.length - blanks l := b
      have := blanks_le l
      exact ⟨hne, h0, h2, a', by omega, rfl⟩
/-- The last one is the end; the places. -/
def shiftR (d : Nat) (R : Res) : Res := (R.1.map (·.far d), if R.2.2 = 0 then R.2.1 else R.2.1 + d, R.2.2)
theorem all_norm : ∀ (n : Nat) (l : List UInt8) (p : Nat), l.length ≤ n → ((allP l p).2.2 = 0 → (allP l p).2.1 = 0) ∧ ((allP l p).2.2 ≠ 0 → (allP l p).1 = [] ∧ p ≤ (allP l p).2.1 ∧ (allP l p).2.1 ≤ p + l.length) := by
  intro n
  induction n with
  | zero =>
    intro l p hn
    obtain rfl : l = [] := List.length_eq_zero_iff.1 (by omega)
    rcases all_cases [] p with ⟨h, e⟩ | ⟨h, h2, e⟩ | ⟨h, _⟩
    · exact absurd rfl h
    · rw [e]; exact ⟨fun _ => rfl, fun h => absurd rfl h⟩
    · exact absurd rfl h
  | succ n ih =>
    intro l p hn
    rcases all_cases l p with ⟨h, e⟩ | ⟨h, h2, e⟩ | ⟨h, h2, h3, h4, h5, e⟩
    · rw [e]
      have := blanks_le l
      exact ⟨fun hh => absurd hh h, fun _ => ⟨rfl, by simp, by simp; omega⟩⟩
    · rw [e]; exact ⟨fun _ => rfl, fun h => absurd rfl h⟩
    · rw [e]
      obtain ⟨i1, i2⟩ := ih (l.drop (blanks l + (tokB l).len)) (p + blanks l + (tokB l).len) (by rw [List.length_drop]; omega)
      rw [List.length_drop] at i2
      unfold consM
      by_cases hh : (allP (l.drop (blanks l + (tokB l).len)) (p + blanks l + (tokB l).len)).2.2 ≠ 0
      · rw [if_pos hh]
        obtain ⟨j1, j2, j3⟩ := i2 hh
        exact ⟨fun x => absurd x hh, fun _ => ⟨rfl, by simp only []; omega, by simp only []; omega⟩⟩
      · rw [if_neg hh]
        exact ⟨fun _ => rfl, fun x => absurd rfl x⟩
theorem all_shift (d : Nat) : ∀ (n : Nat) (l : List UInt8) (p : Nat), l.length ≤ n → allP l (p + d) = shiftR d (allP l p) := by
  intro n
  induction n with
  | zero =>
    intro l p hn
    obtain rfl : l = [] := List.length_eq_zero_iff.1 (by omega)
    rcases all_cases [] p with ⟨h, e⟩ | ⟨h, h2, e⟩ | ⟨h, _⟩
    · exact absurd rfl h
    · rcases all_cases [] (p + d) with ⟨h, e'⟩ | ⟨h, h2, e'⟩ | ⟨h, _⟩
      · exact absurd rfl h
      · rw [e, e']; rfl
      · exact absurd rfl h
    · exact absurd rfl h
  | succ n ih =>
    intro l p hn
    have e2 := allP_step l (p + d)
    rcases all_cases l p with ⟨h, e⟩ | ⟨h, h2, e⟩ | ⟨h, h2, h3, h4, h5, e⟩
    · rw [if_pos h] at e2
      rw [e, e2, shiftR]
      simp only [List.map_nil]
      rw [if_neg h, show p + d + blanks l = p + blanks l + d by omega]
    · rcases all_cases l (p + d) with ⟨h', e'⟩ | ⟨_, _, e'⟩ | ⟨h', _⟩
      · unfold tokB at h'; rw [h] at h'; exact absurd rfl h'
      · rw [e, e', shiftR]
        simp only [List.map_cons, List.map_nil, Mk.far, if_true]
        rw [show p + d + l.length = p + l.length + d by omega]
      · exact absurd h h'
    · rw [if_neg (by simpa using h2), if_neg h3] at e2
      rw [e, e2, show p + d + blanks l + (tokB l).len = p + blanks l + (tokB l).len + d by omega, ih _ _ (by rw [List.length_drop]; omega)]
      generalize allP (l.drop (blanks l + (tokB l).len)) (p + blanks l + (tokB l).len) = R
      unfold consM shiftR
      by_cases hh : R.2.2 ≠ 0
      · rw [if_pos hh, if_pos hh]
        have hz : ¬ R.2.2 = 0 := hh
        simp only [hz, if_false, List.map_nil]
      · rw [if_neg hh, if_neg hh]
        simp only [List.map_append, List.map_cons, List.map_nil, Mk.far, Tok.at, if_true]
        rw [show p + d + blanks l = p + blanks l + d by omega, show p + blanks l + d + (tokB l).len = p + blanks l + (tokB l).len + d by omega]
/-- A text, a blank, and another text. -/
theorem blanks_more {l : List UInt8} (h : l.drop (blanks l) ≠ []) (r : List UInt8) : blanks (l ++ r) = blanks l ∧ (l ++ r).drop (blanks l) = l.drop (blanks l) ++ r := by
  have hle := blanks_le l
  refine ⟨?_, List.drop_append_of_le_length hle⟩
  obtain ⟨c, x, hc⟩ : ∃ c x, l.drop (blanks l) = c :: x := by
    cases e : l.drop (blanks l) with
    | nil => exact absurd e h
    | cons c x => exact ⟨c, x, rfl⟩
  have hb := blanks_head l c x hc
  have e1 : l ++ r = l.take (blanks l) ++ (c :: x ++ r) := by
    rw [← hc, ← List.append_assoc, List.take_append_drop]
  rw [e1, blanks_all _ (blanks_take l), List.cons_append, blanks_zero _ hb, List.length_take]
  omega
theorem tokB_more {l : List UInt8} (h : l.drop (blanks l) ≠ []) (r : List UInt8) (hr : Ahead r) (h4 : (tokB l).e ≠ 4) : tokB (l ++ r) = tokB l := by
  obtain ⟨a, b⟩ := blanks_more h r
  unfold tokB
  rw [a, b]
  exact tokP_more _ _ h hr h4
/-- All marks but the end. -/
def inner (ms : List Mk) : List Mk := ms.take (ms.length - 1)
theorem inner_cons (m : Mk) (ms : List Mk) (h : ms ≠ []) : inner (m :: ms) = m :: inner ms := by
  unfold inner
  match ms, h with
  | a :: r, _ => simp
theorem all_ne : ∀ (n : Nat) (l : List UInt8) (p : Nat), l.length ≤ n → (allP l p).2.2 = 0 → (allP l p).1 = inner (allP l p).1 ++ [⟨11, p + l.length, p + l.length, 0, []⟩] ∧ (allP l p).1 ≠ [] := by
  intro n
  induction n with
  | zero =>
    intro l p hn h0
    obtain rfl : l = [] := List.length_eq_zero_iff.1 (by omega)
    rcases all_cases [] p with ⟨h, e⟩ | ⟨h, h2, e⟩ | ⟨h, _⟩
    · exact absurd rfl h
    · rw [e]; exact ⟨rfl, by simp⟩
    · exact absurd rfl h
  | succ n ih =>
    intro l p hn h0
    rcases all_cases l p with ⟨h, e⟩ | ⟨h, h2, e⟩ | ⟨h, h2, h3, h4, h5, e⟩
    · rw [e] at h0; exact absurd h0 h
    · rw [e]; exact ⟨rfl, by simp⟩
    · rw [e] at h0 ⊢
      rw [consM_err] at h0
      obtain ⟨i1, i2⟩ := ih _ _ (by rw [List.length_drop]; omega) h0
      rw [List.length_drop] at i1
      unfold consM
      rw [if_neg (by simpa using h0)]
      simp only [List.singleton_append]
      rw [inner_cons _ _ i2]
      refine ⟨?_, by simp⟩
      rw [List.cons_append, ← show p + blanks l + (tokB l).len + (l.length - (blanks l + (tokB l).len)) = p + l.length by omega, ← i1]
theorem all_parts (s' : List UInt8) (r : List UInt8) (c0 : UInt8) (hs' : s' = c0 :: r) (hc0 : isBlank c0 = true) : ∀ (n : Nat) (l : List UInt8) (p : Nat), l.length ≤ n → (allP l p).2.2 ≠ 4 →
    ((allP l p).2.2 ≠ 0 → allP (l ++ s') p = allP l p) ∧ ((allP l p).2.2 = 0 → allP (l ++ s') p = consM (inner (allP l p).1) (allP r (p + l.length + 1))) := by
  have hnrm := fun p' => all_norm r.length r p' (Nat.le_refl _)
  have hfin : ∀ (l : List UInt8) (p : Nat), blanks l = l.length → allP (l ++ s') p = allP r (p + l.length + 1) := by
    intro l p hb
    have hall : ∀ c ∈ l, isBlank c = true := by
      have := blanks_take l
      rwa [hb, List.take_length] at this
    have hb1 : blanks (l ++ s') = l.length + 1 + blanks r := by
      rw [hs', show l ++ c0 :: r = (l ++ [c0]) ++ r by simp, blanks_all _ (by intro c hc; simp at hc; rcases hc with hc | rfl; exact hall c hc; exact hc0)]
      simp
    have hd : ∀ k, (l ++ s').drop (l.length + 1 + k) = r.drop k := by
      intro k
      rw [hs', show l ++ c0 :: r = (l ++ [c0]) ++ r by simp, show l.length + 1 + k = (l ++ [c0]).length + k by simp, List.drop_append, List.drop_of_length_le (by omega), List.nil_append, Nat.add_sub_cancel_left]
    have ht : tokB (l ++ s') = tokB r := by unfold tokB; rw [hb1, hd]
    rw [allP_step, allP_step r, ht, hb1, show p + (l.length + 1 + blanks r) = p + l.length + 1 + blanks r by omega, show l.length + 1 + blanks r + (tokB r).len = l.length + 1 + (blanks r + (tokB r).len) by omega, hd]
  intro n
  induction n with
  | zero =>
    intro l p hn h4
    obtain rfl : l = [] := List.length_eq_zero_iff.1 (by omega)
    rcases all_cases [] p with ⟨h, e⟩ | ⟨h, h2, e⟩ | ⟨h, _⟩
    · exact absurd rfl h
    · rw [e]
      refine ⟨fun hh => absurd rfl hh, fun _ => ?_⟩
      rw [hfin [] p rfl]
      exact (consM_nil _ (hnrm _).1 (fun h => ((hnrm _).2 h).1)).symm
    · exact absurd rfl h
  | succ n ih =>
    intro l p hn h4
    rcases all_cases l p with ⟨h, e⟩ | ⟨h, h2, e⟩ | ⟨h, h2, h3, h5, h6, e⟩
    · rw [e] at h4 ⊢
      refine ⟨fun _ => ?_, fun hh => absurd hh h⟩
      have hne : l.drop (blanks l) ≠ [] := fun e => h (by unfold tokB; rw [e]; rfl)
      rw [allP_step, tokB_more hne s' (by rw [hs']; exact ahead_cons _ hc0) h4, if_pos h, (blanks_more hne s').1]
    · rw [e]
      refine ⟨fun hh => absurd rfl hh, fun _ => ?_⟩
      rw [hfin l p h2]
      exact (consM_nil _ (hnrm _).1 (fun h => ((hnrm _).2 h).1)).symm
    · rw [e] at h4 ⊢
      rw [consM_err] at h4 ⊢
      obtain ⟨i1, i2⟩ := ih _ _ (by rw [List.length_drop]; omega) h4
      have ht := tokB_more h s' (by rw [hs']; exact ahead_cons _ hc0) (by rw [h2]; decide)
      have hs : allP (l ++ s') p = consM [(tokB l).at (p + blanks l)] (allP (l.drop (blanks l + (tokB l).len) ++ s') (p + blanks l + (tokB l).len)) := by
        rw [allP_step, ht, if_neg (by simpa using h2), if_neg h3, (blanks_more h s').1, List.drop_append_of_le_length h6]
      rw [hs]
      refine ⟨fun hh => by rw [i1 hh], fun hh => ?_⟩
      rw [i2 hh, consM_consM]
      have hz := all_ne _ _ (p + blanks l + (tokB l).len) (Nat.le_refl _) hh
      rw [List.length_drop, show p + blanks l + (tokB l).len + (l.length - (blanks l + (tokB l).len)) + 1 = p + l.length + 1 by omega]
      have : inner (consM [(tokB l).at (p + blanks l)] (allP (l.drop (blanks l + (tokB l).len)) (p + blanks l + (tokB l).len))).1 = [(tokB l).at (p + blanks l)] ++ inner (allP (l.drop (blanks l + (tokB l).len)) (p + blanks l + (tokB l).len)).1 := by
        unfold consM
        rw [if_neg (by simpa using hh)]
        exact inner_cons _ _ hz.2
      rw [this]
end Go.Proofs.YtkflnbmbkilicaaDoor
