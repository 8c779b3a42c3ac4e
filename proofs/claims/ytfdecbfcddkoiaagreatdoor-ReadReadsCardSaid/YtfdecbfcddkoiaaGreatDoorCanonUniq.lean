/-
  Values that are unlike have unlike forms, and no form but a number's is the beginning of another one. Which values may be, told by counting.
-/
import Derived.Test.YtfdecbfcddkoiaaGreatDoorMayA
import Derived.Test.YtfdecbfcddkoiaaGreatDoorNumA
namespace Go.Proofs.YtfdecbfcddkoiaaGreatDoor
open Go.RowKit

/-- Nothing goes on that could be a number's. -/
def Stop (r : List UInt8) : Prop := ∀ c, r.head? = some c → Nm.isN c = false
theorem stop_cons {c : UInt8} (h : Nm.isN c = false) (r : List UInt8) : Stop (c :: r) := fun d hd => by simp at hd; subst hd; exact h
theorem stop_nil : Stop [] := fun d hd => by simp at hd
theorem takeW {l r : List UInt8} (h : l.all Nm.isN = true) (hs : Stop r) : (l ++ r).takeWhile Nm.isN = l := by
  rw [List.takeWhile_append_of_pos (fun a ha => List.all_eq_true.1 h a ha)]
  cases r with
  | nil => simp
  | cons c r => simp [hs c rfl]
theorem itoa_uniq {a b : Int} {r r' : List UInt8} (hs : Stop r) (hs' : Stop r') (h : Lib.itoa a ++ r = Lib.itoa b ++ r') : a = b ∧ r = r' := by
  have h1 := takeW (Nm.itoa_form a).2.2.1 hs
  rw [h, takeW (Nm.itoa_form b).2.2.1 hs'] at h1
  obtain rfl := Nm.itoa_inj h1
  exact ⟨rfl, List.append_cancel_left h⟩
theorem escB_cases (c : UInt8) : (escB c = [92, c] ∧ (c = 34 ∨ c = 92)) ∨ (escB c = [c] ∧ c ≠ 34 ∧ c ≠ 92) := by
  unfold escB
  split
  · rename_i h; refine Or.inl ⟨rfl, ?_⟩
    rcases (by simpa using h : c.toNat = 34 ∨ c.toNat = 92) with h | h
    · exact Or.inl (UInt8.toNat_inj.1 h)
    · exact Or.inr (UInt8.toNat_inj.1 h)
  · rename_i h
    have h2 : ¬ c.toNat = 34 ∧ ¬ c.toNat = 92 := by simpa [not_or] using h
    exact Or.inr ⟨rfl, fun e => h2.1 (by rw [e]; rfl), fun e => h2.2 (by rw [e]; rfl)⟩
theorem escL_cons (c : UInt8) (r : List UInt8) : escL (c :: r) = escB c ++ escL r := by simp [escL]
theorem esc_uniq : ∀ (a b r r' : List UInt8), escL a ++ 34 :: r = escL b ++ 34 :: r' → a = b ∧ r = r'
  | [], [], r, r', h => by simpa [escL] using h
  | [], d :: b, r, r', h => by
    rw [escL_cons] at h
    rcases escB_cases d with ⟨e, _⟩ | ⟨e, h1, _⟩ <;> rw [e] at h <;> simp [escL] at h
    exact absurd h.1.symm h1
  | c :: a, [], r, r', h => by
    rw [escL_cons] at h
    rcases escB_cases c with ⟨e, _⟩ | ⟨e, h1, _⟩ <;> rw [e] at h <;> simp [escL] at h
    exact absurd h.1 h1
  | c :: a, d :: b, r, r', h => by
    rw [escL_cons, escL_cons] at h
    rcases escB_cases c with ⟨e, _⟩ | ⟨e, h1, h2⟩ <;> rcases escB_cases d with ⟨f, _⟩ | ⟨f, g1, g2⟩ <;> rw [e, f] at h <;> simp only [List.cons_append, List.nil_append, List.cons.injEq, true_and] at h
    · obtain ⟨rfl, h⟩ := h
      obtain ⟨rfl, rfl⟩ := esc_uniq a b r r' h
      exact ⟨rfl, rfl⟩
    · exact absurd h.1.symm g2
    · exact absurd h.1 h2
    · obtain ⟨rfl, h⟩ := h
      obtain ⟨rfl, rfl⟩ := esc_uniq a b r r' h
      exact ⟨rfl, rfl⟩
theorem quote_uniq {a b r r' : List UInt8} (h : quoteL a ++ r = quoteL b ++ r') : a = b ∧ r = r' := by
  unfold quoteL at h
  simp only [List.cons_append, List.append_assoc, List.nil_append, List.cons.injEq, true_and] at h
  exact esc_uniq a b r r' h
theorem bytes_ext {a b : ByteArray} (h : a.data.toList = b.data.toList) : a = b := by
  rw [bytes_back a, bytes_back b, h]

/-- A list from its first value on, with what is behind it; from a comma on. -/
def tailF : List JV → List UInt8 → List UInt8
  | [], r => 93 :: r
  | x :: xs, r => 44 :: (formV x ++ tailF xs r)
def headF : List JV → List UInt8 → List UInt8
  | [], r => 93 :: r
  | x :: xs, r => formV x ++ tailF xs r
def tailO : List ByteArray → List JV → List UInt8 → List UInt8
  | s :: ns, x :: xs, r => 44 :: (quoteL s.data.toList ++ 58 :: (formV x ++ tailO ns xs r))
  | _, _, r => 125 :: r
def headO : List ByteArray → List JV → List UInt8 → List UInt8
  | s :: ns, x :: xs, r => quoteL s.data.toList ++ 58 :: (formV x ++ tailO ns xs r)
  | _, _, r => 125 :: r
theorem join_tail : ∀ (x : JV) (xs : List JV) (r : List UInt8), joinC (formVs (x :: xs)) ++ 93 :: r = formV x ++ tailF xs r
  | x, [], r => by simp [formVs, joinC, tailF]
  | x, y :: xs, r => by
    have := join_tail y xs r
    simp only [formVs, joinC, tailF, List.append_assoc, List.cons_append] at this ⊢
    rw [this]
theorem join_head (xs : List JV) (r : List UInt8) : joinC (formVs xs) ++ 93 :: r = headF xs r := by
  cases xs with
  | nil => simp [formVs, joinC, headF]
  | cons x xs => rw [join_tail, headF]
theorem joinO_tail : ∀ (s : ByteArray) (ns : List ByteArray) (x : JV) (xs : List JV) (r : List UInt8), joinC (((s :: ns).zip (formVs (x :: xs))).map fun p => quoteL p.1.data.toList ++ 58 :: p.2) ++ 125 :: r = quoteL s.data.toList ++ 58 :: (formV x ++ tailO ns xs r)
  | s, [], x, xs, r => by simp [formVs, joinC, tailO]
  | s, m :: ns, x, [], r => by simp [formVs, joinC, tailO]
  | s, m :: ns, x, y :: xs, r => by
    have := joinO_tail m ns y xs r
    simp only [formVs, List.zip_cons_cons, List.map_cons, joinC, tailO, List.append_assoc, List.cons_append] at this ⊢
    rw [this]
theorem joinO_head (ns : List ByteArray) (xs : List JV) (r : List UInt8) : joinC ((ns.zip (formVs xs)).map fun p => quoteL p.1.data.toList ++ 58 :: p.2) ++ 125 :: r = headO ns xs r := by
  cases ns with
  | nil => simp [joinC, headO]
  | cons s ns =>
    cases xs with
    | nil => simp [formVs, joinC, headO]
    | cons x xs => rw [joinO_tail, headO]

/-- What a proper value has, kind by kind. -/
theorem proper_parts {V : JV} (h : properB V = true) : (V.k = 1 ∧ (V.n = 0 ∨ V.n = 1) ∧ V.t.data.toList = [] ∧ V.names = [] ∧ V.items = []) ∨ (V.k = 2 ∧ V.t.data.toList = [] ∧ V.names = [] ∧ V.items = []) ∨
    (V.k = 3 ∧ V.n = 0 ∧ V.names = [] ∧ V.items = []) ∨ (V.k = 4 ∧ V.n = 0 ∧ V.t.data.toList = [] ∧ V.names = []) ∨ (V.k = 5 ∧ V.n = 0 ∧ V.t.data.toList = [] ∧ V.names.length = V.items.length) := by
  cases V with
  | mk k n t names items =>
    simp only [JV.k, JV.n, JV.t, JV.names, JV.items]
    rw [properB] at h
    split at h
    · cases h
    · rename_i h1
      split at h
      · cases h
      · rename_i h2
        have e1 : k = 1 ∨ k = 2 ∨ n = 0 := by omega
        have e2 : k = 3 ∨ t.data.toList = [] := by
          by_cases hk : k = 3
          · exact Or.inl hk
          · refine Or.inr (Classical.byContradiction fun hh => h1 (Or.inr ⟨hk, ?_⟩))
            rw [toList_data]; exact hh
        have e3 : k = 5 ∨ names = [] := by
          by_cases hk : k = 5
          · exact Or.inl hk
          · exact Or.inr (List.length_eq_zero_iff.1 (by omega))
        have e4 : k = 5 ∨ k = 4 ∨ items = [] := by
          by_cases hk : k = 5 ∨ k = 4
          · rcases hk with hk | hk
            · exact Or.inl hk
            · exact Or.inr (Or.inl hk)
          · exact Or.inr (Or.inr (List.length_eq_zero_iff.1 (by omega)))
        split at h
        · rename_i hk
          subst hk
          refine Or.inl ⟨rfl, by simpa using h, ?_, ?_, ?_⟩
          · rcases e2 with e | e; omega; exact e
          · rcases e3 with e | e; omega; exact e
          · rcases e4 with e | e | e; omega; omega; exact e
        · split at h
          · rename_i hk
            rcases hk with rfl | rfl
            · refine Or.inr (Or.inl ⟨rfl, ?_, ?_, ?_⟩)
              · rcases e2 with e | e; omega; exact e
              · rcases e3 with e | e; omega; exact e
              · rcases e4 with e | e | e; omega; omega; exact e
            · refine Or.inr (Or.inr (Or.inr (Or.inl ⟨rfl, by omega, ?_, ?_⟩)))
              · rcases e2 with e | e; omega; exact e
              · rcases e3 with e | e; omega; exact e
          · split at h
            · rename_i hk
              subst hk
              refine Or.inr (Or.inr (Or.inl ⟨rfl, by omega, ?_, ?_⟩))
              · rcases e3 with e | e; omega; exact e
              · rcases e4 with e | e | e; omega; omega; exact e
            · split at h
              · rename_i hk
                subst hk
                simp only [Bool.and_eq_true, decide_eq_true_eq] at h
                refine Or.inr (Or.inr (Or.inr (Or.inr ⟨rfl, by omega, ?_, h.1.1⟩)))
                rcases e2 with e | e; omega; exact e
              · cases h
/-- A form's first byte tells the kind. -/
def kindOf (c : UInt8) : Int := if c = 116 ∨ c = 102 then 1 else if c = 34 then 3 else if c = 91 then 4 else if c = 123 then 5 else 2
theorem form_first {V : JV} (h : goodV V = true) : ∃ c r, formV V = c :: r ∧ kindOf c = V.k ∧ c ≠ 93 ∧ c ≠ 44 := by
  rw [goodV_eq, Bool.and_eq_true] at h
  rw [formV_eq]
  rcases proper_parts h.1 with ⟨hk, hn, _⟩ | ⟨hk, _⟩ | ⟨hk, _⟩ | ⟨hk, _⟩ | ⟨hk, _⟩ <;> rw [hk]
  · rcases hn with hn | hn <;> rw [hn]
    · exact ⟨_, _, rfl, rfl, by decide, by decide⟩
    · exact ⟨_, _, rfl, rfl, by decide, by decide⟩
  · obtain ⟨-, -, hall, hne⟩ := Nm.itoa_form V.n
    simp only [show ¬ (2 : Int) = 1 by decide, if_false, if_true]
    match hi : Lib.itoa V.n, hne with
    | c :: r, _ =>
      rw [hi] at hall
      have hc : Nm.isN c = true := by simp at hall; exact hall.1
      refine ⟨c, r, rfl, ?_, ?_, ?_⟩
      · unfold kindOf
        rw [if_neg, if_neg, if_neg, if_neg]
        · rintro rfl; exact absurd hc (by decide)
        · rintro rfl; exact absurd hc (by decide)
        · rintro rfl; exact absurd hc (by decide)
        · rintro (rfl | rfl) <;> exact absurd hc (by decide)
      · rintro rfl; exact absurd hc (by decide)
      · rintro rfl; exact absurd hc (by decide)
  · exact ⟨_, _, rfl, rfl, by decide, by decide⟩
  · exact ⟨_, _, rfl, rfl, by decide, by decide⟩
  · exact ⟨_, _, rfl, rfl, by decide, by decide⟩
theorem tailF_stop (xs : List JV) (r : List UInt8) : Stop (tailF xs r) := by
  cases xs with
  | nil => exact stop_cons (by decide) _
  | cons x xs => exact stop_cons (by decide) _
theorem tailO_stop (ns : List ByteArray) (xs : List JV) (r : List UInt8) : Stop (tailO ns xs r) := by
  cases ns <;> cases xs <;> exact stop_cons (by decide) _
theorem good_cons {x : JV} {r : List JV} (h : goodVs (x :: r) = true) : goodV x = true ∧ goodVs r = true := by
  rw [goodVs, Bool.and_eq_true] at h; exact h
theorem good_items {V : JV} (h : goodV V = true) (hk : V.k = 4 ∨ V.k = 5) : goodVs V.items = true := by
  rw [goodV_eq, Bool.and_eq_true, if_pos hk] at h; exact h.2
mutual
theorem uniqV : ∀ (V W : JV) (r r' : List UInt8), goodV V = true → goodV W = true → (V.k = 2 → Stop r) → (W.k = 2 → Stop r') → formV V ++ r = formV W ++ r' → V = W ∧ r = r'
  | .mk k n t names items, W, r, r', hV, hW, hs, hs', h => by
    have hk : k = W.k := by
      obtain ⟨c, a, ea, ka, -⟩ := form_first hV
      obtain ⟨d, b, eb, kb, -⟩ := form_first hW
      rw [ea, eb] at h
      simp only [List.cons_append, List.cons.injEq] at h
      rw [← kb, ← h.1, ka]; rfl
    cases W with
    | mk k' n' t' names' items' =>
      have hk' : k = k' := hk
      subst hk'
      have pV := proper_parts (by rw [goodV_eq, Bool.and_eq_true] at hV; exact hV.1)
      have pW := proper_parts (by rw [goodV_eq, Bool.and_eq_true] at hW; exact hW.1)
      simp only [JV.k, JV.n, JV.t, JV.names, JV.items] at pV pW hs hs'
      rw [formV_eq, formV_eq] at h
      simp only [JV.k, JV.n, JV.t, JV.names, JV.items] at h
      rcases pV with ⟨hk, p1, p2, p3, p4⟩ | ⟨hk, p2, p3, p4⟩ | ⟨hk, p1, p3, p4⟩ | ⟨hk, p1, p2, p3⟩ | ⟨hk, p1, p2, p3⟩
      · rcases pW with ⟨gk, q1, q2, q3, q4⟩ | ⟨gk, _⟩ | ⟨gk, _⟩ | ⟨gk, _⟩ | ⟨gk, _⟩ <;> first | (exfalso; omega) | skip
        subst hk
        obtain rfl : t = t' := bytes_ext (by rw [p2, q2])
        subst p3 p4 q3 q4
        rcases p1 with rfl | rfl <;> rcases q1 with rfl | rfl <;> simp at h
        · exact ⟨rfl, h⟩
        · exact ⟨rfl, h⟩
      · rcases pW with ⟨gk, _⟩ | ⟨gk, q2, q3, q4⟩ | ⟨gk, _⟩ | ⟨gk, _⟩ | ⟨gk, _⟩ <;> first | (exfalso; omega) | skip
        subst hk
        obtain rfl : t = t' := bytes_ext (by rw [p2, q2])
        subst p3 p4 q3 q4
        simp only [show ¬ (2 : Int) = 1 by decide, if_false, if_true] at h
        obtain ⟨rfl, rfl⟩ := itoa_uniq (hs rfl) (hs' rfl) h
        exact ⟨rfl, rfl⟩
      · rcases pW with ⟨gk, _⟩ | ⟨gk, _⟩ | ⟨gk, q1, q3, q4⟩ | ⟨gk, _⟩ | ⟨gk, _⟩ <;> first | (exfalso; omega) | skip
        subst hk
        subst p1 q1 p3 p4 q3 q4
        simp only [show ¬ (3 : Int) = 1 by decide, show ¬ (3 : Int) = 2 by decide, if_false, if_true] at h
        obtain ⟨e, rfl⟩ := quote_uniq h
        obtain rfl := bytes_ext e
        exact ⟨rfl, rfl⟩
      · rcases pW with ⟨gk, _⟩ | ⟨gk, _⟩ | ⟨gk, _⟩ | ⟨gk, q1, q2, q3⟩ | ⟨gk, _⟩ <;> first | (exfalso; omega) | skip
        subst hk
        obtain rfl : t = t' := bytes_ext (by rw [p2, q2])
        subst p1 q1 p3 q3
        simp only [show ¬ (4 : Int) = 1 by decide, show ¬ (4 : Int) = 2 by decide, show ¬ (4 : Int) = 3 by decide, if_false, if_true, List.cons_append, List.append_assoc, List.nil_append, List.cons.injEq, true_and] at h
        rw [join_head, join_head] at h
        obtain ⟨rfl, rfl⟩ := uniqH items items' r r' (good_items hV (Or.inl rfl)) (good_items hW (Or.inl rfl)) h
        exact ⟨rfl, rfl⟩
      · rcases pW with ⟨gk, _⟩ | ⟨gk, _⟩ | ⟨gk, _⟩ | ⟨gk, _⟩ | ⟨gk, q1, q2, q3⟩ <;> first | (exfalso; omega) | skip
        subst hk
        obtain rfl : t = t' := bytes_ext (by rw [p2, q2])
        subst p1 q1
        simp only [show ¬ (5 : Int) = 1 by decide, show ¬ (5 : Int) = 2 by decide, show ¬ (5 : Int) = 3 by decide, show ¬ (5 : Int) = 4 by decide, if_false, if_true, List.cons_append, List.append_assoc, List.nil_append, List.cons.injEq, true_and] at h
        rw [joinO_head, joinO_head] at h
        obtain ⟨rfl, rfl, rfl⟩ := uniqHO items names items' names' r r' p3 q3 (good_items hV (Or.inr rfl)) (good_items hW (Or.inr rfl)) h
        exact ⟨rfl, rfl⟩
theorem uniqH : ∀ (xs ys : List JV) (r r' : List UInt8), goodVs xs = true → goodVs ys = true → headF xs r = headF ys r' → xs = ys ∧ r = r'
  | [], [], r, r', _, _, h => by simpa [headF] using h
  | [], y :: ys, r, r', _, hy, h => by
    obtain ⟨c, a, ea, -, h1, -⟩ := form_first (good_cons hy).1
    rw [headF, headF, ea] at h
    simp only [List.cons_append, List.cons.injEq] at h
    exact absurd h.1.symm h1
  | x :: xs, [], r, r', hx, _, h => by
    obtain ⟨c, a, ea, -, h1, -⟩ := form_first (good_cons hx).1
    rw [headF, headF, ea] at h
    simp only [List.cons_append, List.cons.injEq] at h
    exact absurd h.1 h1
  | x :: xs, y :: ys, r, r', hx, hy, h => by
    rw [headF, headF] at h
    obtain ⟨rfl, h2⟩ := uniqV x y _ _ (good_cons hx).1 (good_cons hy).1 (fun _ => tailF_stop _ _) (fun _ => tailF_stop _ _) h
    obtain ⟨rfl, rfl⟩ := uniqT xs ys r r' (good_cons hx).2 (good_cons hy).2 h2
    exact ⟨rfl, rfl⟩
theorem uniqT : ∀ (xs ys : List JV) (r r' : List UInt8), goodVs xs = true → goodVs ys = true → tailF xs r = tailF ys r' → xs = ys ∧ r = r'
  | [], [], r, r', _, _, h => by simpa [tailF] using h
  | [], y :: ys, r, r', _, hy, h => by
    rw [tailF, tailF] at h
    simp only [List.cons.injEq] at h
    exact absurd h.1 (by decide)
  | x :: xs, [], r, r', hx, _, h => by
    rw [tailF, tailF] at h
    simp only [List.cons.injEq] at h
    exact absurd h.1 (by decide)
  | x :: xs, y :: ys, r, r', hx, hy, h => by
    rw [tailF, tailF] at h
    simp only [List.cons.injEq, true_and] at h
    obtain ⟨rfl, h2⟩ := uniqV x y _ _ (good_cons hx).1 (good_cons hy).1 (fun _ => tailF_stop _ _) (fun _ => tailF_stop _ _) h
    obtain ⟨rfl, rfl⟩ := uniqT xs ys r r' (good_cons hx).2 (good_cons hy).2 h2
    exact ⟨rfl, rfl⟩
theorem uniqHO : ∀ (xs : List JV) (ns : List ByteArray) (ys : List JV) (ms : List ByteArray) (r r' : List UInt8), ns.length = xs.length → ms.length = ys.length → goodVs xs = true → goodVs ys = true → headO ns xs r = headO ms ys r' → ns = ms ∧ xs = ys ∧ r = r'
  | [], ns, [], ms, r, r', hn, hm, _, _, h => by
    obtain rfl := List.length_eq_zero_iff.1 hn
    obtain rfl := List.length_eq_zero_iff.1 hm
    simpa [headO] using h
  | [], ns, y :: ys, m :: ms, r, r', hn, hm, _, _, h => by
    obtain rfl := List.length_eq_zero_iff.1 hn
    have h' : (125 : UInt8) :: r = 34 :: _ := h
    exact absurd (List.cons.inj h').1 (by decide)
  | x :: xs, n :: ns, [], ms, r, r', hn, hm, _, _, h => by
    obtain rfl := List.length_eq_zero_iff.1 hm
    have h' : (34 : UInt8) :: _ = 125 :: r' := h
    exact absurd (List.cons.inj h').1 (by decide)
  | x :: xs, n :: ns, y :: ys, m :: ms, r, r', hn, hm, hx, hy, h => by
    rw [headO, headO] at h
    obtain ⟨e, h2⟩ := quote_uniq h
    obtain rfl := bytes_ext e
    simp only [List.cons.injEq, true_and] at h2
    obtain ⟨rfl, h3⟩ := uniqV x y _ _ (good_cons hx).1 (good_cons hy).1 (fun _ => tailO_stop _ _ _) (fun _ => tailO_stop _ _ _) h2
    obtain ⟨rfl, rfl, rfl⟩ := uniqTO xs ns ys ms r r' (by simpa using hn) (by simpa using hm) (good_cons hx).2 (good_cons hy).2 h3
    exact ⟨rfl, rfl, rfl⟩
theorem uniqTO : ∀ (xs : List JV) (ns : List ByteArray) (ys : List JV) (ms : List ByteArray) (r r' : List UInt8), ns.length = xs.length → ms.length = ys.length → goodVs xs = true → goodVs ys = true → tailO ns xs r = tailO ms ys r' → ns = ms ∧ xs = ys ∧ r = r'
  | [], ns, [], ms, r, r', hn, hm, _, _, h => by
    obtain rfl := List.length_eq_zero_iff.1 hn
    obtain rfl := List.length_eq_zero_iff.1 hm
    simpa [tailO] using h
  | [], ns, y :: ys, m :: ms, r, r', hn, hm, _, _, h => by
    obtain rfl := List.length_eq_zero_iff.1 hn
    have h' : (125 : UInt8) :: r = 44 :: _ := h
    exact absurd (List.cons.inj h').1 (by decide)
  | x :: xs, n :: ns, [], ms, r, r', hn, hm, _, _, h => by
    obtain rfl := List.length_eq_zero_iff.1 hm
    have h' : (44 : UInt8) :: _ = 125 :: r' := h
    exact absurd (List.cons.inj h').1 (by decide)
  | x :: xs, n :: ns, y :: ys, m :: ms, r, r', hn, hm, hx, hy, h => by
    rw [tailO, tailO] at h
    simp only [List.cons.injEq, true_and] at h
    obtain ⟨e, h2⟩ := quote_uniq h
    obtain rfl := bytes_ext e
    simp only [List.cons.injEq, true_and] at h2
    obtain ⟨rfl, h3⟩ := uniqV x y _ _ (good_cons hx).1 (good_cons hy).1 (fun _ => tailO_stop _ _ _) (fun _ => tailO_stop _ _ _) h2
    obtain ⟨rfl, rfl, rfl⟩ := uniqTO xs ns ys ms r r' (by simpa using hn) (by simpa using hm) (good_cons hx).2 (good_cons hy).2 h3
    exact ⟨rfl, rfl, rfl⟩
end

/-! Which values may be: by their parts, how many there are, and how deep. -/
mutual
def countV : JV → Nat
  | .mk _ _ _ _ items => 1 + countL items
def countL : List JV → Nat
  | [] => 0
  | x :: r => countV x + countL r
end
mutual
def depthV : JV → Nat
  | .mk k _ _ _ items => if k = 4 ∨ k = 5 then depthL items + 1 else 0
def depthL : List JV → Nat
  | [] => 0
  | x :: r => max (depthV x) (depthL r)
end
theorem countV_eq (V : JV) : countV V = 1 + countL V.items := by cases V; rw [countV]; rfl
theorem depthV_eq (V : JV) : depthV V = if V.k = 4 ∨ V.k = 5 then depthL V.items + 1 else 0 := by cases V; rw [depthV]; rfl
theorem proper_leaf {V : JV} (h : properB V = true) (h4 : V.k ≠ 4) (h5 : V.k ≠ 5) : V.items = [] := by
  rcases proper_parts h with ⟨hk, _, _, _, e⟩ | ⟨hk, _, _, e⟩ | ⟨hk, _, _, e⟩ | ⟨hk, _⟩ | ⟨hk, _⟩
  · exact e
  · exact e
  · exact e
  · exact absurd hk h4
  · exact absurd hk h5
mutual
theorem mayV_iff : ∀ (V : JV) (d : Nat) (l : Int), ((mayV V d l).1 = true ↔ goodV V = true ∧ depthV V ≤ d ∧ (countV V : Int) ≤ l) ∧ ((mayV V d l).1 = true → (mayV V d l).2 = l - countV V)
  | .mk k n t names items, d, l => by
    rw [mayV, goodV_eq, depthV_eq, countV_eq]
    simp only [JV.k, JV.items]
    by_cases h1 : l - 1 < 0
    · rw [if_pos (Or.inl h1)]
      refine ⟨⟨(fun h => by cases h), fun ⟨_, _, h⟩ => by omega⟩, (fun h => by cases h)⟩
    · by_cases hp : properB (.mk k n t names items) = true
      · rw [if_neg (by simp [hp]; omega)]
        by_cases hk : k ≠ 4 ∧ k ≠ 5
        · rw [if_pos hk]
          simp only [show ¬ (k = 4 ∨ k = 5) from by omega, if_false]
          have hi : items = [] := proper_leaf hp hk.1 hk.2
          subst hi
          simp only [hp, countL, Bool.and_true]
          refine ⟨⟨fun _ => ⟨trivial, by omega, by omega⟩, fun _ => trivial⟩, fun _ => by omega⟩
        · rw [if_neg hk]
          simp only [show (k = 4 ∨ k = 5) from by omega, if_true]
          by_cases hd : d = 0
          · rw [if_pos hd]
            exact ⟨⟨(fun h => by cases h), fun ⟨_, h, _⟩ => by omega⟩, (fun h => by cases h)⟩
          · rw [if_neg hd]
            obtain ⟨i1, i2⟩ := mayL_iff items (d - 1) (l - 1) (by omega)
            rw [hp, Bool.true_and]
            refine ⟨⟨fun h => ?_, fun ⟨a, b, c⟩ => i1.2 ⟨a, by omega, by omega⟩⟩, fun h => ?_⟩
            · obtain ⟨a, b, c⟩ := i1.1 h
              exact ⟨a, by omega, by omega⟩
            · rw [i2 h]; omega
      · rw [if_pos (Or.inr (by simpa using hp))]
        refine ⟨⟨(fun h => by cases h), fun ⟨h, _⟩ => ?_⟩, (fun h => by cases h)⟩
        rw [Bool.and_eq_true] at h
        exact absurd h.1 hp
theorem mayL_iff : ∀ (items : List JV) (d : Nat) (l : Int), 0 ≤ l → ((mayL items d l).1 = true ↔ goodVs items = true ∧ depthL items ≤ d ∧ (countL items : Int) ≤ l) ∧ ((mayL items d l).1 = true → (mayL items d l).2 = l - countL items)
  | [], d, l, h0 => by
    rw [mayL, goodVs, depthL, countL]
    exact ⟨⟨fun _ => ⟨rfl, by omega, by omega⟩, fun _ => rfl⟩, fun _ => by simp⟩
  | x :: r, d, l, h0 => by
    rw [mayL, goodVs, depthL, countL]
    obtain ⟨x1, x2⟩ := mayV_iff x d l
    by_cases hx : (mayV x d l).1 = true
    · rw [if_pos hx]
      have e := x2 hx
      obtain ⟨a1, a2, a3⟩ := x1.1 hx
      obtain ⟨r1, r2⟩ := mayL_iff r d (mayV x d l).2 (by rw [e]; omega)
      rw [a1, Bool.true_and]
      refine ⟨⟨fun h => ?_, fun ⟨b1, b2, b3⟩ => r1.2 ⟨b1, by omega, by omega⟩⟩, fun h => ?_⟩
      · obtain ⟨b1, b2, b3⟩ := r1.1 h
        exact ⟨b1, by omega, by omega⟩
      · rw [r2 h, e]; omega
    · rw [if_neg hx]
      refine ⟨⟨(fun h => by cases h), fun ⟨h, h2, h3⟩ => ?_⟩, (fun h => by cases h)⟩
      rw [Bool.and_eq_true] at h
      exact absurd (x1.2 ⟨h.1, by omega, by omega⟩) hx
end
theorem mayB_iff (V : JV) : mayB V = true ↔ goodV V = true ∧ depthV V ≤ 12 ∧ countV V ≤ 8192 := by
  unfold mayB
  rw [(mayV_iff V 12 8192).1]
  constructor
  · rintro ⟨a, b, c⟩; exact ⟨a, b, by omega⟩
  · rintro ⟨a, b, c⟩; exact ⟨a, b, by omega⟩
theorem countL_mem : ∀ {l : List JV} {x : JV}, x ∈ l → countV x ≤ countL l
  | y :: r, x, h => by
    rw [countL]
    rcases List.mem_cons.1 h with rfl | h
    · omega
    · have := countL_mem h; omega
theorem depthL_mem : ∀ {l : List JV} {x : JV}, x ∈ l → depthV x ≤ depthL l
  | y :: r, x, h => by
    rw [depthL]
    rcases List.mem_cons.1 h with rfl | h
    · omega
    · have := depthL_mem h; omega
/-- The Items of a list or an object that may be may be. -/
theorem may_item {V x : JV} (h : mayB V = true) (hk : V.k = 4 ∨ V.k = 5) (hx : x ∈ V.items) : mayB x = true := by
  obtain ⟨a, b, c⟩ := (mayB_iff V).1 h
  rw [countV_eq] at c
  rw [depthV_eq, if_pos hk] at b
  have h1 := countL_mem hx
  have h2 := depthL_mem hx
  exact (mayB_iff x).2 ⟨goodVs_mem (good_items a hk) x hx, by omega, by omega⟩
theorem may_name {V : JV} (h : mayB V = true) (hk : V.k = 5) {s : ByteArray} (hs : s ∈ V.names) : writ s = true := by
  obtain ⟨a, -, -⟩ := (mayB_iff V).1 h
  rw [goodV_eq, Bool.and_eq_true] at a
  exact List.all_eq_true.1 (proper_obj a.1 hk).2.2 s hs
theorem may_uniq {V W : JV} (hV : mayB V = true) (hW : mayB W = true) (h : formV V = formV W) : V = W :=
  (uniqV V W [] [] ((mayB_iff V).1 hV).1 ((mayB_iff W).1 hW).1 (fun _ => stop_nil) (fun _ => stop_nil) (by simpa using h)).1
theorem may_front {V W : JV} (hV : mayB V = true) (hW : mayB W = true) (hk : V.k ≠ 2) {r : List UInt8} (h : formV V ++ r = formV W) : r = [] :=
  (uniqV V W r [] ((mayB_iff V).1 hV).1 ((mayB_iff W).1 hW).1 (fun h => absurd h hk) (fun _ => stop_nil) (by simpa using h)).2
end Go.Proofs.YtfdecbfcddkoiaaGreatDoor
