/-
  The form of what is read has as many bytes at most (plain).
-/
import Derived.Test.YtngebebhaehmnaaGreatDoorCanonBackP
namespace Go.Proofs.YtngebebhaehmnaaGreatDoor
open Go.RowKit

/-- How many bytes a mark has in a form. -/
def wTok (m : Mk) : Nat := if m.k = 7 then 4 else if m.k = 8 then 5 else if m.k = 9 then (Lib.itoa m.n).length else if m.k = 10 then (quoteL m.t).length else if m.k = 11 then 0 else 1
def wLx : Lx → Nat
  | .tok m => wTok m
  | .err _ _ => 0
def wMs : List Lx → Nat
  | [] => 0
  | x :: r => wLx x + wMs r
theorem esc_enc {r : Int} (hr : isRune r) : (escL (encP r)).length ≤ if r = 34 ∨ r = 92 then 2 else (encP r).length := by
  rcases enc_bytes hr with ⟨h1, h2⟩ | ⟨h1, h2⟩
  · have h0 := hr.1
    obtain ⟨n, rfl⟩ : ∃ n : Nat, r = n := ⟨r.toNat, by omega⟩
    rw [Int.toNat_natCast] at h2
    have hn := u8_of n (by omega)
    by_cases e : (n : Int) = 34 ∨ (n : Int) = 92
    · rw [if_pos e, h2]
      have := escL_len [UInt8.ofNat n]
      simpa using this
    · rw [if_neg e, h2, esc_same fun c hc => by simp at hc; subst hc; omega]
      exact Nat.le_refl _
  · rw [if_neg (by omega), esc_same fun c hc => by have := h2 c hc; omega]
    exact Nat.le_refl _
theorem esc_four {r : Int} (hr : isRune r) : (escL (encP r)).length ≤ 4 := by
  have h := esc_enc hr
  have := (encP_len r).2
  split at h <;> omega
theorem item_w {c : UInt8} {l : List UInt8} (h : (itemP (c :: l)).2.2 = 0) (hc : c.toNat ≠ 34) : (escL (encP (itemP (c :: l)).1)).length ≤ (itemP (c :: l)).2.1 := by
  have hok := itemP_ok (c :: l) h
  rw [itemP] at h hok ⊢
  by_cases h1 : c.toNat < 32
  · rw [if_pos h1] at h; simp at h
  rw [if_neg h1] at h hok ⊢
  by_cases h2 : c.toNat ≠ 92
  · rw [if_pos h2] at h hok ⊢
    by_cases he : (nextP (c :: l)).2.2 ≠ 0
    · rw [if_pos he] at h; exact absurd h he
    rw [if_neg he] at hok ⊢
    have h0 : (nextP (c :: l)).2.2 = 0 := Classical.not_not.1 he
    have henc := enc_next h0
    obtain ⟨a, b⟩ := next_size (c :: l) h0
    have hr := nextP_rune _ h0
    have hq : ¬ ((nextP (c :: l)).1 = 34 ∨ (nextP (c :: l)).1 = 92) := fun e => by
      have hh : ∃ x, encP (nextP (c :: l)).1 = [x] ∧ (x.toNat = 34 ∨ x.toNat = 92) := by
        rcases e with e | e <;> rw [e]
        · exact ⟨34, by decide, by decide⟩
        · exact ⟨92, by decide, by decide⟩
      obtain ⟨x, hx, hx2⟩ := hh
      rw [hx] at henc
      obtain ⟨k, hk⟩ : ∃ k, (nextP (c :: l)).2.1.toNat = k + 1 := ⟨(nextP (c :: l)).2.1.toNat - 1, by omega⟩
      rw [hk, List.take_succ_cons] at henc
      simp only [List.cons.injEq] at henc
      rw [henc.1] at hx2
      omega
    have h4 := esc_enc hr
    rw [if_neg hq, henc, List.length_take] at h4
    rw [henc]
    show (escL ((c :: l).take (nextP (c :: l)).2.1.toNat)).length ≤ (nextP (c :: l)).2.1.toNat
    omega
  · rw [if_neg h2] at h hok ⊢
    by_cases he : (escP l).2.2 ≠ 0
    · rw [if_pos he] at h; exact absurd h he
    rw [if_neg he] at hok ⊢
    have h4 := esc_four hok.1
    have he0 : (escP l).2.2 = 0 := Classical.not_not.1 he
    show (escL (encP (escP l).1)).length ≤ (escP l).2.1 + 1
    have h5 : (escL (encP (escP l).1)).length ≤ 4 := h4
    match l with
    | [] => simp [escP] at he0
    | d :: l =>
      rw [escP] at he0 h5 ⊢
      by_cases hu : d.toNat = 117
      · rw [if_pos hu] at he0 h5 ⊢
        by_cases hk : (codedP l).2.2 ≠ 0
        · rw [if_pos hk] at he0; exact absurd he0 hk
        · rw [if_neg hk] at h5 ⊢
          have := codedP_ok l (Classical.not_not.1 hk)
          show _ ≤ (codedP l).2.1 + 1 + 1
          omega
      · rw [if_neg hu] at he0 h5 ⊢
        by_cases hv : escV d < 0
        · rw [if_pos hv] at he0; simp at he0
        · rw [if_neg hv]
          have hb := escV_ok d hv
          show (escL (encP (escV d))).length ≤ 1 + 1
          have hr : isRune (escV d) := ⟨by omega, by omega, by omega⟩
          have h6 := esc_enc hr
          have h7 : (encP (escV d)).length = 1 := by unfold encP; rw [if_pos hb.2]; rfl
          split at h6 <;> omega
theorem strQ_w : ∀ (n : Nat) (l out : List UInt8), l.length ≤ n → (strQ l out).2.2 = 0 → (escL (strQ l out).1).length + 1 ≤ (escL out).length + (strQ l out).2.1
  | _, [], _, _, h => by simp [strQ_nil] at h
  | 0, _ :: _, _, hn, _ => by simp at hn
  | n + 1, c :: l, out, hn, h => by
    rw [strQ_step] at h ⊢
    by_cases h1 : c.toNat = 34
    · rw [if_pos h1]
      exact Nat.le_refl _
    rw [if_neg h1] at h ⊢
    by_cases h2 : (itemP (c :: l)).2.2 ≠ 0
    · rw [if_pos h2] at h; exact absurd h h2
    rw [if_neg h2] at h ⊢
    by_cases h3 : 4096 < out.length + (encP (itemP (c :: l)).1).length
    · rw [if_pos h3] at h; simp at h
    rw [if_neg h3] at h ⊢
    rw [strT_err] at h
    have h0 : (itemP (c :: l)).2.2 = 0 := Classical.not_not.1 h2
    obtain ⟨_, b, d⟩ := itemP_ok (c :: l) h0
    have ih := strQ_w n ((c :: l).drop (itemP (c :: l)).2.1) (out ++ encP (itemP (c :: l)).1) (by rw [List.length_drop]; simp at hn ⊢; omega) h
    have hi := item_w h0 h1
    rw [escL_app, List.length_append] at ih
    unfold strT
    rw [if_neg (by rw [h]; simp)]
    show (escL (strQ _ _).1).length + 1 ≤ _ + ((strQ _ _).2.1 + _)
    omega
theorem tok_w {l : List UInt8} (hl : l ≠ []) (h : (tokP l).e = 0) (p : Nat) : wTok ((tokP l).at p) ≤ (tokP l).len := by
  match l, hl with
  | c :: l, _ =>
    rw [tokP] at h ⊢
    by_cases h1 : signOf c ≠ 0
    · rw [if_pos h1]
      have := signOf_bd c
      unfold wTok Tok.at
      rw [if_neg (by show ¬ signOf c = 7; omega), if_neg (by show ¬ signOf c = 8; omega), if_neg (by show ¬ signOf c = 9; omega), if_neg (by show ¬ signOf c = 10; omega), if_neg (by show ¬ signOf c = 11; omega)]
      exact Nat.le_refl _
    rw [if_neg h1] at h ⊢
    by_cases h2 : c.toNat = 34
    · rw [if_pos h2] at h ⊢
      rw [textP_e] at h
      have hw := strQ_w _ l [] (Nat.le_refl _) h
      rw [textP_eq, if_neg (by rw [h]; simp)]
      show (quoteL (strQ l []).1).length ≤ (strQ l []).2.1 + 1
      have e0 : (escL ([] : List UInt8)).length = 0 := rfl
      unfold quoteL
      rw [List.length_cons, List.length_append, List.length_singleton]
      omega
    rw [if_neg h2] at h ⊢
    by_cases h3 : numFirst c = true
    · rw [if_pos h3] at h ⊢
      unfold numP at h ⊢
      by_cases g1 : Nm.form ((c :: l).takeWhile Nm.isN) = false
      · rw [if_pos g1] at h; simp [Tok.bad] at h
      rw [if_neg g1] at h ⊢
      by_cases g2 : -9223372036854775808 ≤ Nm.val ((c :: l).takeWhile Nm.isN) ∧ Nm.val ((c :: l).takeWhile Nm.isN) ≤ 9223372036854775807
      · rw [if_pos g2]
        show (Lib.itoa (Nm.val ((c :: l).takeWhile Nm.isN))).length ≤ _
        rw [Nm.itoa_val (by simpa using g1)]
        exact Nat.le_refl _
      · rw [if_neg g2] at h; simp [Tok.bad] at h
    · rw [if_neg h3] at h ⊢
      unfold wordP at h ⊢
      by_cases g1 : (c :: l).takeWhile isLow = [116, 114, 117, 101]
      · rw [if_pos g1]
        exact Nat.le_refl 4
      rw [if_neg g1] at h ⊢
      by_cases g2 : (c :: l).takeWhile isLow = [102, 97, 108, 115, 101]
      · rw [if_pos g2]
        exact Nat.le_refl 5
      · rw [if_neg g2] at h; simp [Tok.bad] at h
theorem lexes_w : ∀ (n : Nat) (l : List UInt8) (p : Nat), l.length ≤ n → wMs (lexes l p) ≤ l.length
  | n, l, p, hn => by
    rw [lexes_step]
    by_cases h1 : (tokB l).e ≠ 0
    · rw [if_pos h1]
      exact Nat.zero_le _
    rw [if_neg h1]
    have h0 : (tokB l).e = 0 := Classical.not_not.1 h1
    by_cases h2 : (tokB l).k = 11
    · rw [if_pos h2]
      have hk : ((tokB l).at (p + blanks l)).k = 11 := h2
      have e11 : wTok ((tokB l).at (p + blanks l)) = 0 := by
        unfold wTok
        rw [if_neg (by rw [hk]; decide), if_neg (by rw [hk]; decide), if_neg (by rw [hk]; decide), if_neg (by rw [hk]; decide), if_pos hk]
      show wTok _ + 0 ≤ _
      omega
    · rw [if_neg h2]
      have hne : l.drop (blanks l) ≠ [] := fun e => h2 ((tok_end h0).2 e)
      obtain ⟨k1, k2, _⟩ := tokP_ok hne h0
      have j1 : 1 ≤ (tokB l).len := k1
      have j2 : (tokB l).len ≤ l.length - blanks l := by rw [List.length_drop] at k2; exact k2
      have j3 : wTok ((tokB l).at (p + blanks l)) ≤ (tokB l).len := tok_w hne h0 _
      match n, hn with
      | 0, hn => omega
      | n + 1, hn =>
        have ih := lexes_w n (l.drop (blanks l + (tokB l).len)) (p + blanks l + (tokB l).len) (by rw [List.length_drop]; omega)
        rw [List.length_drop] at ih
        show wTok _ + wMs _ ≤ _
        omega

/-! The form of what is read off marks. -/
def ValW (val : Mk → List Lx → Nat → PR JV) : Prop := ∀ m ms c V ms' c', val m ms c = .ok V ms' c' → (formV V).length + wMs ms' ≤ wTok m + wMs ms
/-- Bytes of texts, with a comma behind each. -/
def sumC (l : List (List UInt8)) : Nat := (l.map fun x => x.length + 1).sum
theorem sumC_cons (x : List UInt8) (l : List (List UInt8)) : sumC (x :: l) = x.length + 1 + sumC l := by simp [sumC]
theorem sumC_app (a b : List (List UInt8)) : sumC (a ++ b) = sumC a + sumC b := by simp [sumC]
theorem sumC_perm {a b : List (List UInt8)} (h : a.Perm b) : sumC a = sumC b := (h.map _).sum_nat
theorem joinC_sumC : ∀ (l : List (List UInt8)), l ≠ [] → (joinC l).length + 1 = sumC l
  | [], h => absurd rfl h
  | [x], _ => by simp [joinC, sumC]
  | x :: y :: r, _ => by
    have := joinC_sumC (y :: r) (by simp)
    rw [sumC_cons, joinC, List.length_append, List.length_cons]
    omega
theorem w_sign {m : Mk} (h : m.k = 1 ∨ m.k = 2 ∨ m.k = 3 ∨ m.k = 4 ∨ m.k = 5 ∨ m.k = 6) : wTok m = 1 := by
  unfold wTok
  rw [if_neg (by omega), if_neg (by omega), if_neg (by omega), if_neg (by omega), if_neg (by omega)]
theorem list_form (l : List JV) : formV (listV l) = 91 :: (joinC (l.map formV) ++ [93]) := by
  unfold listV
  rw [formV_eq, if_neg (by simp [JV.k]), if_neg (by simp [JV.k]), if_neg (by simp [JV.k]), if_pos (by simp [JV.k]), formVs_map]
  rfl
def memF (x : Mem) : List UInt8 := quoteL x.1.data.toList ++ 58 :: formV x.2
theorem obj_form (l : List Mem) : formV (objV l) = 123 :: (joinC ((sortM l).map memF) ++ [125]) := by
  unfold objV
  rw [formV_eq, if_neg (by simp [JV.k]), if_neg (by simp [JV.k]), if_neg (by simp [JV.k]), if_neg (by simp [JV.k]), if_pos (by simp [JV.k]), formVs_map]
  have e : ∀ l : List Mem, ((l.map Prod.fst).zip ((l.map Prod.snd).map formV)).map (fun p => quoteL p.1.data.toList ++ 58 :: p.2) = l.map memF := fun l => by
    induction l with
    | nil => rfl
    | cons x l ih => rw [List.map_cons, List.map_cons, List.map_cons, List.zip_cons_cons, List.map_cons, ih]; rfl
  show 123 :: (joinC (((((sortM l).map Prod.fst).zip (((sortM l).map Prod.snd).map formV))).map (fun p => quoteL p.1.data.toList ++ 58 :: p.2)) ++ [125]) = _
  rw [e]
theorem items_w {val : Mk → List Lx → Nat → PR JV} (hv : ValW val) : ∀ (f : Nat) (m : Mk) (ms : List Lx) (c : Nat) (acc : List JV) (V : JV) (ms' : List Lx) (c' : Nat), itemsP val f m ms c acc = .ok V ms' c' →
    (formV V).length + wMs ms' ≤ 1 + sumC (acc.map formV) + wTok m + wMs ms
  | 0, m, ms, c, acc, v, ms', c', h => by simp [itemsP] at h
  | f + 1, m, ms, c, acc, v, ms', c', h => by
    rw [itemsP] at h
    cases hval : val m ms c with
    | bad p e => rw [hval] at h; simp at h
    | ok u ms1 c1 =>
      rw [hval] at h
      have hw := hv m ms c u ms1 c1 hval
      simp only [moreP] at h
      obtain ⟨m2, r2, ee, h'⟩ := nextL_ok h
      subst ee
      have e2 : wMs (.tok m2 :: r2) = wTok m2 + wMs r2 := rfl
      by_cases k4 : m2.k = 4
      · rw [if_pos k4] at h'
        simp only [PR.ok.injEq] at h'
        obtain ⟨rfl, rfl, rfl⟩ := h'
        have e4 := w_sign (m := m2) (by omega)
        have ej := joinC_sumC ((acc ++ [u]).map formV) (by simp)
        rw [List.map_append, sumC_app, List.map_cons, List.map_nil, sumC_cons] at ej
        have e0 : sumC [] = 0 := rfl
        rw [list_form, List.length_cons, List.length_append, List.length_singleton, List.map_append, List.map_cons, List.map_nil]
        omega
      · rw [if_neg k4] at h'
        by_cases k5 : m2.k = 5
        · rw [if_pos k5] at h'
          obtain ⟨m3, r3, ee3, h''⟩ := nextL_ok h'
          subst ee3
          have ih := items_w hv f m3 r3 c1 _ v ms' c' h''
          have e4 := w_sign (m := m2) (by omega)
          have e3 : wMs (.tok m3 :: r3) = wTok m3 + wMs r3 := rfl
          rw [List.map_append, sumC_app, List.map_cons, List.map_nil, sumC_cons] at ih
          have e0 : sumC [] = 0 := rfl
          omega
        · rw [if_neg k5] at h'
          simp at h'
theorem members_w {val : Mk → List Lx → Nat → PR JV} (hv : ValW val) : ∀ (f : Nat) (m : Mk) (ms : List Lx) (c : Nat) (acc : List Mem) (V : JV) (ms' : List Lx) (c' : Nat), membersP val f m ms c acc = .ok V ms' c' →
    (formV V).length + wMs ms' ≤ 1 + sumC (acc.map memF) + wTok m + wMs ms
  | 0, m, ms, c, acc, v, ms', c', h => by simp [membersP] at h
  | f + 1, m, ms, c, acc, v, ms', c', h => by
    rw [membersP] at h
    by_cases h10 : m.k ≠ 10
    · rw [if_pos h10] at h; simp at h
    rw [if_neg h10] at h
    by_cases hn : hasN acc m.name = true
    · rw [if_pos hn] at h; simp at h
    rw [if_neg hn] at h
    obtain ⟨m2, r2, ee, h1⟩ := nextL_ok h
    subst ee
    by_cases h6 : m2.k ≠ 6
    · rw [if_pos h6] at h1; simp at h1
    rw [if_neg h6] at h1
    obtain ⟨m3, r3, ee, h2⟩ := nextL_ok h1
    subst ee
    have e2 : wMs (.tok m2 :: .tok m3 :: r3) = wTok m2 + (wTok m3 + wMs r3) := rfl
    have e6 := w_sign (m := m2) (by omega)
    have e10 : wTok m = (quoteL m.t).length := by unfold wTok; rw [if_neg (by omega), if_neg (by omega), if_neg (by omega), if_pos (by omega)]
    cases hval : val m3 r3 c with
    | bad p e => rw [hval] at h2; simp at h2
    | ok u ms1 c1 =>
      rw [hval] at h2
      have hw := hv m3 r3 c u ms1 c1 hval
      have em : (memF (m.name, u)).length = (quoteL m.t).length + 1 + (formV u).length := by
        show (quoteL m.t ++ 58 :: formV u).length = _
        rw [List.length_append, List.length_cons]
        omega
      simp only [moreP] at h2
      obtain ⟨m4, r4, ee, h3⟩ := nextL_ok h2
      subst ee
      have e4 : wMs (.tok m4 :: r4) = wTok m4 + wMs r4 := rfl
      by_cases k2 : m4.k = 2
      · rw [if_pos k2] at h3
        simp only [PR.ok.injEq] at h3
        obtain ⟨rfl, rfl, rfl⟩ := h3
        have e5 := w_sign (m := m4) (by omega)
        have hp : ((sortM (acc ++ [(m.name, u)])).map memF).Perm ((acc ++ [(m.name, u)]).map memF) := (sortM_perm _).map _
        have ej := joinC_sumC ((sortM (acc ++ [(m.name, u)])).map memF) (fun e => by rw [e] at hp; simpa using hp.symm.eq_nil)
        rw [sumC_perm hp, List.map_append, sumC_app, List.map_cons, List.map_nil, sumC_cons] at ej
        have e0 : sumC [] = 0 := rfl
        rw [obj_form, List.length_cons, List.length_append, List.length_singleton]
        omega
      · rw [if_neg k2] at h3
        by_cases k5 : m4.k = 5
        · rw [if_pos k5] at h3
          obtain ⟨m5, r5, ee, h4⟩ := nextL_ok h3
          subst ee
          have ih := members_w hv f m5 r5 c1 _ v ms' c' h4
          have e5 := w_sign (m := m4) (by omega)
          have e3 : wMs (.tok m5 :: r5) = wTok m5 + wMs r5 := rfl
          rw [List.map_append, sumC_app, List.map_cons, List.map_nil, sumC_cons] at ih
          have e0 : sumC [] = 0 := rfl
          omega
        · rw [if_neg k5] at h3
          simp at h3
theorem leaf_w {m : Mk} (hb : begV m = true) (h3 : m.k ≠ 1 ∧ m.k ≠ 3) : (formV (leafV m)).length = wTok m := by
  simp only [begV, Bool.or_eq_true, beq_iff_eq] at hb
  unfold leafV wTok
  by_cases k7 : m.k = 7
  · rw [if_pos k7, if_pos k7]; rfl
  rw [if_neg k7, if_neg k7]
  by_cases k8 : m.k = 8
  · rw [if_pos k8, if_pos k8]; rfl
  rw [if_neg k8, if_neg k8]
  by_cases k9 : m.k = 9
  · rw [if_pos k9, if_pos k9]
    rw [formV_eq]
    rfl
  · rw [if_neg k9, if_neg k9, if_pos (by omega)]
    rw [formV_eq]
    rfl
theorem val_w : ∀ d, ValW (valP d)
  | d, m, ms, c, V, ms', c', h => by
    unfold valP at h
    by_cases h1 : begV m = false
    · rw [if_pos h1] at h; simp at h
    rw [if_neg h1] at h
    by_cases h2 : 8192 ≤ c
    · rw [if_pos h2] at h; simp at h
    rw [if_neg h2] at h
    by_cases h3 : m.k ≠ 1 ∧ m.k ≠ 3
    · rw [if_pos h3] at h
      simp only [PR.ok.injEq] at h
      obtain ⟨rfl, rfl, rfl⟩ := h
      rw [leaf_w (by simpa using h1) h3]
      exact Nat.le_refl _
    rw [if_neg h3] at h
    match d with
    | 0 => simp at h
    | d + 1 =>
      have em := w_sign (m := m) (by omega)
      simp only [] at h
      by_cases k3 : m.k = 3
      · rw [if_pos k3] at h
        unfold listP at h
        obtain ⟨m2, r2, ee, h4⟩ := nextL_ok h
        subst ee
        have e2 : wMs (.tok m2 :: r2) = wTok m2 + wMs r2 := rfl
        by_cases k4 : m2.k = 4
        · rw [if_pos k4] at h4
          simp only [PR.ok.injEq] at h4
          obtain ⟨rfl, rfl, rfl⟩ := h4
          have e4 := w_sign (m := m2) (by omega)
          have : (formV (listV [])).length = 2 := rfl
          omega
        · rw [if_neg k4] at h4
          have := items_w (val_w d) _ m2 r2 _ _ _ _ _ h4
          have e0 : sumC (([] : List JV).map formV) = 0 := rfl
          omega
      · rw [if_neg k3] at h
        unfold objP at h
        obtain ⟨m2, r2, ee, h4⟩ := nextL_ok h
        subst ee
        have e2 : wMs (.tok m2 :: r2) = wTok m2 + wMs r2 := rfl
        by_cases k4 : m2.k = 2
        · rw [if_pos k4] at h4
          simp only [PR.ok.injEq] at h4
          obtain ⟨rfl, rfl, rfl⟩ := h4
          have e4 := w_sign (m := m2) (by omega)
          have : (formV (objV [])).length = 2 := rfl
          omega
        · rw [if_neg k4] at h4
          have := members_w (val_w d) _ m2 r2 _ _ _ _ _ h4
          have e0 : sumC (([] : List Mem).map memF) = 0 := rfl
          omega
/-- The form of what is read is no longer than the text. -/
theorem short_plain {s : List UInt8} {V : JV} {ms : List Lx} {c : Nat} (h : readV s = .ok V ms c) : (formV V).length ≤ s.length := by
  obtain ⟨-, m0, pre, hlex, -, hp⟩ := readV_ok h
  have h1 := lexes_w _ s 0 (Nat.le_refl _)
  rw [hlex] at h1
  have h2 := val_w 12 _ _ _ _ _ _ (hp [.tok ⟨11, s.length, s.length, 0, []⟩])
  have e : wMs (.tok m0 :: (pre ++ [.tok ⟨11, s.length, s.length, 0, []⟩])) = wTok m0 + wMs (pre ++ [.tok ⟨11, s.length, s.length, 0, []⟩]) := rfl
  omega
end Go.Proofs.YtngebebhaehmnaaGreatDoor
