/-
  The marks of bytes: their row, each by itself, blanks between them (plain).
-/
import Derived.Test.YtkflnbmbkilicaaDoorLexAllP
namespace Go.Proofs.YtkflnbmbkilicaaDoor

/-- A mark stands at its place. -/
def MarkAt (s : List UInt8) (m : Mk) : Prop := (tokP (s.drop m.a)).e = 0 ∧ m = (tokP (s.drop m.a)).at m.a
/-- Marks stand in a row, from a place on. -/
def RowP (s : List UInt8) : Nat → List Mk → Prop
  | p, [] => p = s.length
  | p, m :: r => p ≤ m.a ∧ m.a ≤ m.z ∧ m.z ≤ s.length ∧ (∀ c ∈ (s.drop p).take (m.a - p), isBlank c = true) ∧ (m.k = 11 ↔ r = []) ∧ 1 ≤ m.k ∧ m.k ≤ 11 ∧ (m.k ≠ 11 → m.a < m.z) ∧ (m.k ≠ 9 → m.n = 0) ∧ (m.k ≠ 10 → m.t = []) ∧ MarkAt s m ∧ RowP s m.z r
theorem consM_ok {ms : List Mk} {R : Res} (h : R.2.2 = 0) : consM ms R = (ms ++ R.1, 0, 0) := by unfold consM; rw [if_neg (by simpa using h)]
theorem all_row (s : List UInt8) : ∀ (n : Nat) (l : List UInt8) (p : Nat), l.length ≤ n → p ≤ s.length → s.drop p = l → (allP l p).2.2 = 0 → RowP s p (allP l p).1 := by
  intro n
  induction n with
  | zero =>
    intro l p hn hp hl h0
    obtain rfl : l = [] := List.length_eq_zero_iff.1 (by omega)
    have hps : p = s.length := by have := congrArg List.length hl; rw [List.length_drop, List.length_nil] at this; omega
    rcases all_cases [] p with ⟨h, e⟩ | ⟨h, h2, e⟩ | ⟨h, _⟩
    · exact absurd rfl h
    · rw [e]
      subst hps
      refine ⟨Nat.le_refl _, Nat.le_refl _, Nat.le_refl _, ?_, by simp, by simp, by simp, fun h => absurd rfl h, fun _ => rfl, fun _ => rfl, ?_, rfl⟩
      · intro c hc
        rw [List.length_nil, Nat.add_zero, Nat.sub_self, List.take_zero] at hc
        cases hc
      · unfold MarkAt
        simp only [List.length_nil, Nat.add_zero]
        rw [List.drop_length, tokP_nil]
        exact ⟨rfl, rfl⟩
    · exact absurd rfl h
  | succ n ih =>
    intro l p hn hp hl h0
    have hlen : l.length = s.length - p := by rw [← hl, List.length_drop]
    have hbl : ∀ c ∈ (s.drop p).take (p + blanks l - p), isBlank c = true := by
      rw [hl, Nat.add_sub_cancel_left]; exact blanks_take l
    have hdr : ∀ k, s.drop (p + k) = l.drop k := fun k => by rw [← hl, List.drop_drop]
    rcases all_cases l p with ⟨h, e⟩ | ⟨h, h2, e⟩ | ⟨h, h2, h3, h4, h5, e⟩
    · rw [e] at h0; exact absurd h0 h
    · rw [e]
      rw [h2] at hbl h
      refine ⟨by simp, Nat.le_refl _, by simp only []; omega, hbl, by simp, by simp, by simp, fun h => absurd rfl h, fun _ => rfl, fun _ => rfl, ?_, by simp only [RowP]; omega⟩
      unfold MarkAt
      simp only []
      rw [hdr, h, tokP_nil]
      exact ⟨rfl, rfl⟩
    · rw [e] at h0 ⊢
      rw [consM_err] at h0
      have hne := all_ne _ _ _ (Nat.le_refl _) h0
      rw [consM_ok h0]
      obtain ⟨k0, k1, k2, k3, k4, k5⟩ := tokP_ok h h2
      have ihh := ih _ _ (by rw [List.length_drop]; omega) (by omega) (by rw [Nat.add_assoc, hdr]) h0
      refine ⟨by simp [Tok.at], by simp [Tok.at], by simp only [Tok.at]; omega, hbl, ?_, k2, by simp only [Tok.at]; exact Int.le_trans k3 (by decide), fun _ => by simp only [Tok.at]; omega, k4, k5, ?_, ihh⟩
      · exact ⟨fun x => absurd x h3, fun x => absurd x hne.2⟩
      · unfold MarkAt
        simp only [Tok.at]
        rw [hdr]
        exact ⟨h2, rfl⟩
theorem tok_blank {c : UInt8} {r : List UInt8} (h : (tokP (c :: r)).e = 0) : isBlank c = false := by
  by_cases hb : isBlank c = true
  · exfalso
    have hc := blank_cases hb
    rw [tokP] at h
    have h1 : signOf c = 0 := by unfold signOf; repeat' split; all_goals omega
    rw [if_neg (by simp [h1]), if_neg (by omega)] at h
    have h3 : numFirst c = false := by
      have := blank_isN hb
      simp only [Nm.isN, Bool.or_eq_false_iff] at this
      simp only [numFirst, Bool.or_eq_false_iff]
      exact ⟨⟨⟨this.1.1.1.1.1, this.1.1.1.1.2⟩, this.1.1.1.2⟩, this.1.1.2⟩
    rw [if_neg (by simp [h3])] at h
    have hw : (c :: r).takeWhile isLow = [] := by rw [List.takeWhile_cons, if_neg (by simp [blank_isLow hb])]
    exact (wordP_ok h).2.2.2.2 hw
  · simpa using hb
theorem blanks_tok {l : List UInt8} (h : (tokP l).e = 0) : blanks l = 0 := by
  match l with
  | [] => rfl
  | c :: r => exact blanks_zero r (tok_blank h)
/-- The next mark from a place on. -/
def nextM (s : List UInt8) (p : Nat) : Mk × Int := if (tokB (s.drop p)).e ≠ 0 then (⟨0, 0, 0, 0, []⟩, (tokB (s.drop p)).e) else ((tokB (s.drop p)).at (p + blanks (s.drop p)), 0)
theorem next_of {s : List UInt8} {m : Mk} (h : MarkAt s m) : nextM s m.a = (m, 0) := by
  unfold nextM tokB
  rw [blanks_tok h.1, List.drop_zero, if_neg (by simpa using h.1), Nat.add_zero, ← h.2]
theorem alone_end : allP [] 0 = ([⟨11, 0, 0, 0, []⟩], 0, 0) := rfl
theorem mark_bytes {s : List UInt8} {m : Mk} (h : MarkAt s m) : m.z - m.a = (tokP (s.drop m.a)).len ∧ m.z = m.a + (tokP (s.drop m.a)).len ∧ m.k = (tokP (s.drop m.a)).k ∧ m.n = (tokP (s.drop m.a)).n ∧ m.t = (tokP (s.drop m.a)).t := by
  have h2 := h.2
  have e1 : m.z = m.a + (tokP (s.drop m.a)).len := congrArg Mk.z h2
  exact ⟨by omega, e1, congrArg Mk.k h2, congrArg Mk.n h2, congrArg Mk.t h2⟩
theorem alone_mark {s : List UInt8} {m : Mk} (h : MarkAt s m) (hk : m.k ≠ 11) : allP ((s.drop m.a).take (m.z - m.a)) 0 = ([⟨m.k, 0, m.z - m.a, m.n, m.t⟩, ⟨11, m.z - m.a, m.z - m.a, 0, []⟩], 0, 0) := by
  obtain ⟨e1, e2, e3, e4, e5⟩ := mark_bytes h
  have hne : s.drop m.a ≠ [] := fun e => hk (by rw [e3, e]; rfl)
  obtain ⟨k0, k1, _⟩ := tokP_ok hne h.1
  have ht := tokP_take hne h.1
  rw [e1, e3, e4, e5]
  have h0 := h.1
  generalize s.drop m.a = l at ht k0 k1 h0 hne e3
  generalize hB : l.take (tokP l).len = B at ht
  have hBl : B.length = (tokP l).len := by rw [← hB, List.length_take]; omega
  have hb : blanks B = 0 := blanks_tok (by rw [ht]; exact h0)
  have hT : tokB B = tokP l := by unfold tokB; rw [hb, List.drop_zero, ht]
  rw [allP_step, hT, if_neg (by simpa using h0), if_neg (by rw [← e3]; exact hk), hb]
  rw [show (0 : Nat) + (tokP l).len = B.length by omega, List.drop_length, hBl]
  have : allP [] (tokP l).len = ([⟨11, (tokP l).len, (tokP l).len, 0, []⟩], 0, 0) := by
    rcases all_cases [] (tokP l).len with ⟨h, e⟩ | ⟨h, h2, e⟩ | ⟨h, _⟩
    · exact absurd rfl h
    · exact e
    · exact absurd rfl h
  rw [this, consM_ok rfl]
  simp [Tok.at]
/-- Marks with blanks ahead of each. -/
def blkT (s b : List UInt8) : List Mk → List UInt8
  | [] => []
  | m :: r => b ++ ((s.drop m.a).take (m.z - m.a) ++ blkT s b r)
def blkM (n : Nat) : Nat → List Mk → List Mk
  | _, [] => []
  | q, m :: r => ⟨m.k, q + n, q + n + (m.z - m.a), m.n, m.t⟩ :: blkM n (q + n + (m.z - m.a)) r
theorem blk_all (s b : List UInt8) (hb : ∀ c ∈ b, isBlank c = true) (hb0 : b ≠ []) : ∀ (ms : List Mk) (p q : Nat), RowP s p ms → ms ≠ [] → allP (blkT s b ms) q = (blkM b.length q ms, 0, 0)
  | [], _, _, _, h => absurd rfl h
  | m :: r, p, q, hr, _ => by
    obtain ⟨r1, r2, r3, r4, r5, r6, r7, r8, r9, r10, r11, r12⟩ := hr
    obtain ⟨e1, e2, e3, e4, e5⟩ := mark_bytes r11
    by_cases hk : m.k = 11
    · obtain rfl := r5.1 hk
      have hnil : s.drop m.a = [] := (tok_end r11.1).1 (by rw [← e3]; exact hk)
      have hz : m.z - m.a = 0 := by rw [e1, hnil]; rfl
      have hbl : blanks b = b.length := by have := blanks_all b hb []; simpa [blanks] using this
      unfold blkT blkT blkM blkM
      rw [hnil, List.take_nil, List.append_nil, List.append_nil, hz]
      rcases all_cases b q with ⟨h, e⟩ | ⟨h, h2, e⟩ | ⟨h, _⟩
      · unfold tokB at h
        rw [hbl, List.drop_length] at h
        exact absurd rfl h
      · rw [e, hk, r9 (by omega), r10 (by omega)]; rfl
      · rw [hbl, List.drop_length] at h
        exact absurd rfl h
    · have hrne : r ≠ [] := fun e => hk (r5.2 e)
      have hne : s.drop m.a ≠ [] := fun e => hk (by rw [e3, e]; rfl)
      obtain ⟨k0, k1, _⟩ := tokP_ok hne r11.1
      have hah : Ahead (blkT s b r) := by
        match r, hrne with
        | m2 :: r2, _ =>
          match b, hb0 with
          | c :: b', _ => exact ahead_cons _ (hb c (by simp))
      have hal := tokP_alone hne r11.1 _ hah
      have hbb := blanks_tok (by rw [hal]; exact r11.1)
      unfold blkT
      rw [e1]
      have hbT : blanks (b ++ ((s.drop m.a).take (tokP (s.drop m.a)).len ++ blkT s b r)) = b.length := by rw [blanks_all b hb, hbb]; rfl
      have hdT : (b ++ ((s.drop m.a).take (tokP (s.drop m.a)).len ++ blkT s b r)).drop b.length = (s.drop m.a).take (tokP (s.drop m.a)).len ++ blkT s b r := by
        rw [List.drop_append_of_le_length (Nat.le_refl _), List.drop_length, List.nil_append]
      have hT : tokB (b ++ ((s.drop m.a).take (tokP (s.drop m.a)).len ++ blkT s b r)) = tokP (s.drop m.a) := by
        unfold tokB
        rw [hbT, hdT, hal]
      have hlt : ((s.drop m.a).take (tokP (s.drop m.a)).len).length = (tokP (s.drop m.a)).len := by rw [List.length_take]; omega
      rw [allP_step, hT, if_neg (by simpa using r11.1), if_neg (by rw [← e3]; exact hk), hbT, ← List.drop_drop, hdT]
      have hdd : ((s.drop m.a).take (tokP (s.drop m.a)).len ++ blkT s b r).drop (tokP (s.drop m.a)).len = blkT s b r := by
        rw [List.drop_append_of_le_length (by omega), List.drop_of_length_le (by omega), List.nil_append]
      rw [hdd, blk_all s b hb hb0 r m.z _ r12 hrne, consM_ok rfl]
      rw [show blkM b.length q (m :: r) = ⟨m.k, q + b.length, q + b.length + (m.z - m.a), m.n, m.t⟩ :: blkM b.length (q + b.length + (m.z - m.a)) r from rfl]
      rw [e1, e3, e4, e5]
      rfl
end Go.Proofs.YtkflnbmbkilicaaDoor
