/-
  The marks of texts put together, and lists of what texts say.
-/
import Derived.Test.YtfdecbfcddkoiaaGreatDoorReadLim
namespace Go.Proofs.YtfdecbfcddkoiaaGreatDoor
open Go.RowKit

/-- What ends a number and a word. -/
def StopN (b : List UInt8) : Prop := ∀ c r, b = c :: r → Nm.isN c = false ∧ isLow c = false
theorem tokP_stop (l r : List UInt8) (hl : l ≠ []) (hr : StopN r) (h : (tokP l).e ≠ 4) : tokP (l ++ r) = tokP l := by
  match l, hl with
  | c :: l, _ =>
    rw [List.cons_append, tokP, tokP]
    rw [tokP] at h
    by_cases h1 : signOf c ≠ 0
    · rw [if_pos h1, if_pos h1]
    · rw [if_neg h1] at h
      rw [if_neg h1, if_neg h1]
      by_cases h2 : c.toNat = 34
      · rw [if_pos h2, textP_e] at h
        rw [if_pos h2, if_pos h2, textP_eq, textP_eq, strQ_more r _ l [] (Nat.le_refl _) h]
      · rw [if_neg h2, if_neg h2]
        by_cases h3 : numFirst c = true
        · rw [if_pos h3, if_pos h3, ← List.cons_append]
          exact numP_of (tw_more _ _ fun c r' e => (hr c r' e).1)
        · rw [if_neg h3, if_neg h3, ← List.cons_append]
          exact wordP_of (tw_more _ _ fun c r' e => (hr c r' e).2)
theorem lexes_stop (b : List UInt8) (hb : StopN b) : ∀ (pre : List Lx) (l : List UInt8) (p : Nat) (m : Mk) (r : List Lx), Toks pre → lexes l p = pre ++ .tok m :: r → m.k = 11 → lexes (l ++ b) p = pre ++ lexes b (p + l.length)
  | [], l, p, m, r, _, h, hm => by
    have hall := end_blank (by simpa using h) hm
    exact lexes_blank l hall b p
  | x :: pre, l, p, m, r, ht, h, hm => by
    rw [lexes_step] at h
    by_cases h1 : (tokB l).e ≠ 0
    · rw [if_pos h1] at h
      simp at h
    rw [if_neg h1] at h
    simp only [List.cons_append, List.cons.injEq] at h
    obtain ⟨rfl, h⟩ := h
    have h0 : (tokB l).e = 0 := Classical.not_not.1 h1
    by_cases h2 : (tokB l).k = 11
    · rw [if_pos h2] at h
      simp at h
    rw [if_neg h2] at h
    have hne : l.drop (blanks l) ≠ [] := fun e => h2 ((tok_end h0).2 e)
    obtain ⟨k1, k2, _⟩ := tokP_ok hne h0
    have j2 : (tokB l).len ≤ l.length - blanks l := by rw [List.length_drop] at k2; exact k2
    have j1 : 1 ≤ (tokB l).len := k1
    have hbl := blanks_le l
    have a3 := lexes_stop b hb pre _ _ m r (fun y hy => ht y (by simp [hy])) h hm
    rw [List.length_drop] at a3
    rw [show p + blanks l + (tokB l).len + (l.length - (blanks l + (tokB l).len)) = p + l.length by omega] at a3
    have e2 : tokB (l ++ b) = tokB l := by
      unfold tokB
      rw [blanks_cut b hne, List.drop_append_of_le_length hbl]
      refine tokP_stop _ b hne hb ?_
      show (tokB l).e ≠ 4
      omega
    rw [lexes_step, e2, if_neg h1, if_neg h2, blanks_cut b hne, List.drop_append_of_le_length (by omega), a3]
    rfl
theorem lexes_ge : ∀ (n : Nat) (l : List UInt8) (p : Nat), l.length ≤ n → ∀ x ∈ lexes l p, p ≤ x.at
  | n, l, p, hn, x, hx => by
    rw [lexes_step] at hx
    by_cases h1 : (tokB l).e ≠ 0
    · rw [if_pos h1, List.mem_singleton] at hx
      subst hx
      show p ≤ p + blanks l
      omega
    rw [if_neg h1, List.mem_cons] at hx
    rcases hx with rfl | hx
    · show p ≤ p + blanks l
      omega
    · by_cases h2 : (tokB l).k = 11
      · rw [if_pos h2] at hx; simp at hx
      · rw [if_neg h2] at hx
        have h0 : (tokB l).e = 0 := Classical.not_not.1 h1
        have hne : l.drop (blanks l) ≠ [] := fun e => h2 ((tok_end h0).2 e)
        obtain ⟨k1, k2, _⟩ := tokP_ok hne h0
        have j1 : 1 ≤ (tokB l).len := k1
        have j2 : (tokB l).len ≤ l.length - blanks l := by rw [List.length_drop] at k2; exact k2
        match n, hn with
        | 0, hn => omega
        | n + 1, hn =>
          have := lexes_ge n _ _ (by rw [List.length_drop]; omega) x hx
          omega
/-- What a text says, wherever it stands, whatever stops it. -/
theorem value_at {s : List UInt8} {V : JV} {ms : List Lx} {c : Nat} (h : readV s = .ok V ms c) (q : Nat) (b : List UInt8) (hb : StopN b) :
    ∃ m0 pre, lexes (s ++ b) q = .tok m0 :: (pre ++ lexes b (q + s.length)) ∧ begV m0 = true ∧ ∀ A d' c0, Lim d' c0 V A (.tok m0 :: (pre ++ A)) (valP d' m0 (pre ++ A) c0) := by
  obtain ⟨-, m0, pre, hlex, ht, hp⟩ := readV_ok h
  have hfar := lexes_far q s.length s 0 (Nat.le_refl _)
  rw [Nat.zero_add, hlex] at hfar
  have hshape : lexes s q = (.tok (m0.far q) :: pre.map (Lx.far q)) ++ .tok (Mk.far ⟨11, s.length, s.length, 0, []⟩ q) :: [] := by
    rw [hfar]
    simp [Lx.far]
  have htoks : Toks (.tok (m0.far q) :: pre.map (Lx.far q)) := by
    refine toks_cons fun x hx => ?_
    obtain ⟨y, hy, rfl⟩ := List.mem_map.1 hx
    obtain ⟨m, rfl⟩ := ht y hy
    exact ⟨m.far q, rfl⟩
  have hst := lexes_stop b hb _ s q _ [] htoks hshape rfl
  have h0 := hp []
  rw [List.append_nil] at h0
  have hmv := val_move (far_moves q) 12 m0 (m0.far q) pre 0 rfl rfl rfl rfl
  rw [h0] at hmv
  have h1 : valP 12 (m0.far q) (pre.map (Lx.far q)) 0 = .ok V [] c := hmv
  obtain ⟨pre2, -, he, htk⟩ := val_takes 12 _ _ _ _ _ _ h1
  rw [List.append_nil] at he
  subst he
  have hbeg : begV (m0.far q) = true := by
    cases hb : begV (m0.far q) with
    | true => rfl
    | false =>
      unfold valP at h1
      rw [if_pos hb] at h1
      simp at h1
  exact ⟨m0.far q, pre.map (Lx.far q), hst, hbeg, fun A d' c0 => val_lim 12 _ _ _ _ _ _ (htk A) d' c0⟩
theorem lexes_sign (c : UInt8) (r : List UInt8) (p : Nat) (hb : isBlank c = false) (hs : signOf c ≠ 0) : lexes (c :: r) p = .tok ⟨signOf c, p, p + 1, 0, []⟩ :: lexes r (p + 1) := by
  have e0 : blanks (c :: r) = 0 := blanks_zero r hb
  have e1 : tokB (c :: r) = ⟨signOf c, 1, 0, [], 0⟩ := by
    unfold tokB
    rw [e0, List.drop_zero, tokP, if_pos hs]
  have hk := signOf_bd c
  rw [lexes_step, e1, e0, if_neg (by simp), if_neg (by show ¬ signOf c = 11; omega)]
  simp only [Tok.at, Nat.zero_add, Nat.add_zero, List.drop_succ_cons, List.drop_zero]
theorem begs_no {m : Mk} (h : begV m = true) : m.k ≠ 4 ∧ m.k ≠ 2 ∧ m.k ≠ 11 ∧ m.k ≠ 5 ∧ m.k ≠ 6 := by
  simp only [begV, Bool.or_eq_true, beq_iff_eq] at h
  omega
/-- A list of what two texts say. -/
theorem lists_plain {s t : List UInt8} {V W : JV} {ms1 ms2 : List Lx} {c1 c2 : Nat} (hs : readV s = .ok V ms1 c1) (ht : readV t = .ok W ms2 c2) (hl : s.length + t.length + 3 ≤ 65536) :
    ((depthV V ≤ 11 ∧ depthV W ≤ 11 ∧ countV V + countV W + 1 ≤ 8192) → ∃ ms c, readV (91 :: (s ++ 44 :: (t ++ [93]))) = .ok (listV [V, W]) ms c) ∧
    (¬ (depthV V ≤ 11 ∧ depthV W ≤ 11 ∧ countV V + countV W + 1 ≤ 8192) → ∃ p e, readV (91 :: (s ++ 44 :: (t ++ [93]))) = .bad p e ∧ 0 < p ∧ ((e = 5 ∧ 8192 < countV V + countV W + 1) ∨ (e = 8 ∧ (11 < depthV V ∨ 11 < depthV W)))) := by
  have hst1 : StopN (44 :: (t ++ [93])) := fun c r e => by cases e; exact ⟨rfl, rfl⟩
  have hst2 : StopN [93] := fun c r e => by cases e; exact ⟨rfl, rfl⟩
  obtain ⟨m1, pre1, l1, b1, v1⟩ := value_at hs 1 _ hst1
  obtain ⟨m2, pre2, l2, b2, v2⟩ := value_at ht (1 + s.length + 1) _ hst2
  have lA : lexes (91 :: (s ++ 44 :: (t ++ [93]))) 0 = Lx.tok ⟨3, 0, 1, 0, []⟩ :: lexes (s ++ 44 :: (t ++ [93])) 1 := lexes_sign 91 _ 0 rfl (by decide)
  have lB : lexes (44 :: (t ++ [93])) (1 + s.length) = Lx.tok ⟨5, 1 + s.length, 1 + s.length + 1, 0, []⟩ :: lexes (t ++ [93]) (1 + s.length + 1) := lexes_sign 44 _ _ rfl (by decide)
  have lC : ∀ q, lexes [93] q = [Lx.tok ⟨4, q, q + 1, 0, []⟩, Lx.tok ⟨11, q + 1, q + 1, 0, []⟩] := fun q => by
    rw [lexes_sign 93 [] q rfl (by decide)]
    rfl
  have hge := lexes_ge _ (s ++ 44 :: (t ++ [93])) 1 (Nat.le_refl _)
  rw [lB, l2, lC] at l1
  rw [l1] at hge lA
  generalize 1 + s.length + 1 + t.length = q at *
  obtain ⟨n4, -, -, -, -⟩ := begs_no b1
  obtain ⟨o4, -, -, -, -⟩ := begs_no b2
  have hread : readV (91 :: (s ++ 44 :: (t ++ [93]))) = match itemsP (valP 11) ((pre1 ++ Lx.tok ⟨5, 1 + s.length, 1 + s.length + 1, 0, []⟩ :: Lx.tok m2 :: (pre2 ++ [Lx.tok ⟨4, q, q + 1, 0, []⟩, Lx.tok ⟨11, q + 1, q + 1, 0, []⟩])).length + 1) m1 (pre1 ++ Lx.tok ⟨5, 1 + s.length, 1 + s.length + 1, 0, []⟩ :: Lx.tok m2 :: (pre2 ++ [Lx.tok ⟨4, q, q + 1, 0, []⟩, Lx.tok ⟨11, q + 1, q + 1, 0, []⟩])) 1 [] with
      | PR.bad p e => PR.bad p e
      | PR.ok v ms c => endP v ms c := by
    unfold readV
    rw [if_neg (by simp only [List.length_cons, List.length_append, List.length_nil]; omega), lA]
    show topP _ _ = _
    unfold topP
    have e1 : valP 12 ⟨3, 0, 1, 0, []⟩ (Lx.tok m1 :: (pre1 ++ Lx.tok ⟨5, 1 + s.length, 1 + s.length + 1, 0, []⟩ :: Lx.tok m2 :: (pre2 ++ [Lx.tok ⟨4, q, q + 1, 0, []⟩, Lx.tok ⟨11, q + 1, q + 1, 0, []⟩]))) 0 = listP (valP 11) (Lx.tok m1 :: (pre1 ++ Lx.tok ⟨5, 1 + s.length, 1 + s.length + 1, 0, []⟩ :: Lx.tok m2 :: (pre2 ++ [Lx.tok ⟨4, q, q + 1, 0, []⟩, Lx.tok ⟨11, q + 1, q + 1, 0, []⟩]))) 1 := by
      rw [valP, if_neg (by decide), if_neg (by decide), if_neg (by decide)]
      rfl
    have e3 : ∀ R : List Lx, listP (valP 11) (Lx.tok m1 :: R) 1 = itemsP (valP 11) (R.length + 1) m1 R 1 [] := fun R => by
      unfold listP
      show (if m1.k = 4 then PR.ok (listV []) R 1 else itemsP (valP 11) (R.length + 1) m1 R 1 []) = _
      exact if_neg n4
    rw [e1, e3]
    generalize itemsP _ _ _ _ _ _ = R
    cases R <;> rfl
  rw [hread]
  obtain ⟨f1, g1⟩ := v1 (Lx.tok ⟨5, 1 + s.length, 1 + s.length + 1, 0, []⟩ :: Lx.tok m2 :: (pre2 ++ [Lx.tok ⟨4, q, q + 1, 0, []⟩, Lx.tok ⟨11, q + 1, q + 1, 0, []⟩])) 11 1
  obtain ⟨f2, g2⟩ := v2 [Lx.tok ⟨4, q, q + 1, 0, []⟩, Lx.tok ⟨11, q + 1, q + 1, 0, []⟩] 11 (1 + countV V)
  obtain ⟨F, hF⟩ : ∃ F, (pre1 ++ Lx.tok ⟨5, 1 + s.length, 1 + s.length + 1, 0, []⟩ :: Lx.tok m2 :: (pre2 ++ [Lx.tok ⟨4, q, q + 1, 0, []⟩, Lx.tok ⟨11, q + 1, q + 1, 0, []⟩])).length = F + 1 := ⟨_, by simp only [List.length_append, List.length_cons]; rw [Nat.add_succ]⟩
  rw [hF]
  by_cases hf1 : depthV V ≤ 11 ∧ 1 + countV V ≤ 8192
  · have e1 : itemsP (valP 11) (F + 1 + 1) m1 (pre1 ++ Lx.tok ⟨5, 1 + s.length, 1 + s.length + 1, 0, []⟩ :: Lx.tok m2 :: (pre2 ++ [Lx.tok ⟨4, q, q + 1, 0, []⟩, Lx.tok ⟨11, q + 1, q + 1, 0, []⟩])) 1 [] = itemsP (valP 11) (F + 1) m2 (pre2 ++ [Lx.tok ⟨4, q, q + 1, 0, []⟩, Lx.tok ⟨11, q + 1, q + 1, 0, []⟩]) (1 + countV V) [V] := by
      rw [itemsP, f1 hf1.1 hf1.2]
      rfl
    rw [e1]
    by_cases hf2 : depthV W ≤ 11 ∧ 1 + countV V + countV W ≤ 8192
    · refine ⟨fun _ => ⟨[], 1 + countV V + countV W, ?_⟩, fun hn => absurd ⟨hf1.1, hf2.1, by omega⟩ hn⟩
      rw [itemsP, f2 hf2.1 hf2.2]
      rfl
    · refine ⟨fun h => absurd ⟨h.2.1, by omega⟩ hf2, fun _ => ?_⟩
      obtain ⟨x, hx, e, hR, he⟩ := g2 hf2
      refine ⟨x.at, e, by rw [itemsP, hR], ?_, by omega⟩
      have := hge x (by simp at hx ⊢; rcases hx with hx | hx | hx | hx <;> simp [hx])
      omega
  · refine ⟨fun h => absurd ⟨h.1, by omega⟩ hf1, fun _ => ?_⟩
    obtain ⟨x, hx, e, hR, he⟩ := g1 hf1
    refine ⟨x.at, e, by rw [itemsP, hR], ?_, ?_⟩
    · have := hge x hx
      omega
    · have := countV_pos W
      omega
end Go.Proofs.YtfdecbfcddkoiaaGreatDoor
