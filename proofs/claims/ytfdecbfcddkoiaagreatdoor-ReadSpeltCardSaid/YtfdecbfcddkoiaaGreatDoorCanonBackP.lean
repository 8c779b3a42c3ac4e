/-
  What is read of a value's form; how long the form is of what is read (plain).
-/
import Derived.Test.YtfdecbfcddkoiaaGreatDoorReadQuo
import Derived.Test.YtfdecbfcddkoiaaGreatDoorFormIn
namespace Go.Proofs.YtfdecbfcddkoiaaGreatDoor
open Go.RowKit

theorem asc_pairs {l : List ByteArray} (h : ascB l = true) : l.Pairwise (fun a b => Op.bytesLess a.data.toList b.data.toList = true) := by
  unfold ascB at h
  rw [List.all_eq_true] at h
  have h1 : ∀ i (hi : i + 1 < l.length), Op.bytesLess (l[i]'(by omega)).data.toList (l[i + 1]'hi).data.toList = true := fun i hi => by
    have := h i (List.mem_range.2 (by omega))
    unfold lessAt at this
    rw [toList_data, toList_data, List.getD_eq_getElem?_getD, List.getD_eq_getElem?_getD, List.getElem?_eq_getElem (by omega), List.getElem?_eq_getElem (by omega)] at this
    exact this
  have h2 : ∀ (k i : Nat) (hi : i + k + 1 < l.length), Op.bytesLess (l[i]'(by omega)).data.toList (l[i + k + 1]'hi).data.toList = true := fun k => by
    induction k with
    | zero => exact fun i hi => h1 i hi
    | succ k ih => exact fun i hi => bl_trans _ _ _ (ih i (by omega)) (h1 (i + k + 1) hi)
  rw [List.pairwise_iff_getElem]
  intro i j hi hj hij
  have := h2 (j - i - 1) i (by omega)
  have e : i + (j - i - 1) + 1 = j := by omega
  simp only [e] at this
  exact this
theorem zip_asc : ∀ (names : List ByteArray) (items : List JV), names.Pairwise (fun a b => Op.bytesLess a.data.toList b.data.toList = true) → (names.zip items).Pairwise (fun a b => Op.bytesLess a.1.data.toList b.1.data.toList = true)
  | [], _, _ => by simp
  | _ :: _, [], _ => by simp
  | a :: names, x :: items, h => by
    rw [List.pairwise_cons] at h
    rw [List.zip_cons_cons, List.pairwise_cons]
    exact ⟨fun p hp => h.1 p.1 (List.of_mem_zip hp).1, zip_asc names items h.2⟩
theorem zip_parts : ∀ (names : List ByteArray) (items : List JV), names.length = items.length → (names.zip items).map Prod.fst = names ∧ (names.zip items).map Prod.snd = items := fun names items h => ⟨List.map_fst_zip (by omega), List.map_snd_zip (by omega)⟩
/-- An object's members, in their row, are sorted. -/
theorem zip_sorted {names : List ByteArray} {items : List JV} (h : ascB names = true) (hl : names.length = items.length) : Apart (names.zip items) ∧ objV (names.zip items) = .mk 5 0 ⟨#[]⟩ names items := by
  have hz := zip_asc names items (asc_pairs h)
  have hap : Apart (names.zip items) := hz.imp fun {a b} hab e => by
    rw [e, bl_irrefl] at hab
    exact absurd hab (by simp)
  have hs : (names.zip items).Pairwise MemLe := hz.imp fun {a b} hab => by
    unfold MemLe
    rw [nmLt_eq]
    exact bl_asymm hab
  have e := sorted_one hap (List.Perm.refl _) hs
  obtain ⟨z1, z2⟩ := zip_parts names items hl
  refine ⟨hap, ?_⟩
  unfold objV
  rw [← e, z1, z2]
def lowL (l : List UInt8) : Bool := l.any fun c => decide (c.toNat < 32)
theorem noLow_of {l : List UInt8} (h : lowL l = false) : NoLow l := fun c hc => by
  unfold lowL at h
  rw [List.any_eq_false] at h
  have := h c hc
  simp at this
  omega
mutual
/-- Has a value's text, or name, a byte below 20 (hexadecimal)? -/
def lowV : JV → Bool
  | .mk _ _ t names items => lowL t.data.toList || names.any (fun s => lowL s.data.toList) || lowVs items
def lowVs : List JV → Bool
  | [] => false
  | x :: r => lowV x || lowVs r
end
theorem lowV_eq (V : JV) : lowV V = (lowL V.t.data.toList || V.names.any (fun s => lowL s.data.toList) || lowVs V.items) := by cases V; rw [lowV]; rfl
theorem sps_zip {names : List ByteArray} : ∀ {items : List JV}, names.length = items.length → names.all writ = true → names.any (fun s => lowL s.data.toList) = false → Sps items (formVs items) →
    SpMs (names.zip items) ((names.zip (formVs items)).map fun p => quoteL p.1.data.toList ++ 58 :: p.2) := by
  induction names with
  | nil => intro items _ _ _ _; exact .nil
  | cons s ns ih =>
    intro items hl hw hn hs
    match items, hl, hs with
    | x :: xs, hl, .cons h1 h2 =>
      rw [List.all_cons, Bool.and_eq_true] at hw
      rw [List.any_cons, Bool.or_eq_false_iff] at hn
      exact .cons (sp_named hw.1 (noLow_of hn.1) h1) (ih (by simpa using hl) hw.2 hn.2 h2)
mutual
/-- A value's form says that value. -/
theorem sp_form : ∀ (V : JV), goodV V = true → inV V → lowV V = false → Sp V (formV V)
  | .mk k n t names items, hg, hin, hlow => by
    have hp : properB (.mk k n t names items) = true := by rw [goodV_eq, Bool.and_eq_true] at hg; exact hg.1
    have hparts := proper_parts hp
    simp only [JV.k, JV.n, JV.t, JV.names, JV.items] at hparts
    rw [lowV_eq] at hlow
    simp only [JV.t, JV.names, JV.items, Bool.or_eq_false_iff] at hlow
    rw [inV] at hin
    rcases hparts with ⟨rfl, hn, ht, rfl, rfl⟩ | ⟨rfl, ht, rfl, rfl⟩ | ⟨rfl, rfl, rfl, rfl⟩ | ⟨rfl, rfl, ht, rfl⟩ | ⟨rfl, rfl, ht, hl⟩
    · obtain rfl : t = ⟨#[]⟩ := bytes_ext ht
      rcases hn with rfl | rfl
      · exact sp_false
      · exact sp_true
    · obtain rfl : t = ⟨#[]⟩ := bytes_ext ht
      exact sp_num hin.1 hin.2.1
    · have hw : writ t = true := proper_text hp rfl
      have := sp_text (sp_quote hw (noLow_of hlow.1.1)) (writ_len hw)
      exact this
    · obtain rfl : t = ⟨#[]⟩ := bytes_ext ht
      have hgi : goodVs items = true := by rw [goodV_eq, Bool.and_eq_true] at hg; exact hg.2
      exact sp_list (a := []) (sps_form items hgi hin.2.2 hlow.2) (fun c hc => by cases hc)
    · obtain rfl : t = ⟨#[]⟩ := bytes_ext ht
      have hgi : goodVs items = true := by rw [goodV_eq, Bool.and_eq_true] at hg; exact hg.2
      obtain ⟨-, h1, h2⟩ := proper_obj hp rfl
      obtain ⟨h3, h4⟩ := zip_sorted (names := names) (items := items) h1 hl
      have := sp_obj (a := []) (sps_zip hl h2 hlow.1.2 (sps_form items hgi hin.2.2 hlow.2)) h3 (fun c hc => by cases hc)
      rw [h4] at this
      exact this
theorem sps_form : ∀ (l : List JV), goodVs l = true → inVs l → lowVs l = false → Sps l (formVs l)
  | [], _, _, _ => .nil
  | x :: r, hg, hin, hlow => by
    rw [goodVs, Bool.and_eq_true] at hg
    rw [inVs] at hin
    rw [lowVs, Bool.or_eq_false_iff] at hlow
    exact .cons (sp_form x hg.1 hin.1 hlow.1) (sps_form r hg.2 hin.2 hlow.2)
end
theorem back_ok {V : JV} (hm : mayB V = true) (hin : inV V) (hlow : lowV V = false) (hl : (formV V).length ≤ 65536) : ∃ ms, readV (formV V) = .ok V ms (countV V) := by
  obtain ⟨h1, h2, h3⟩ := (mayB_iff V).1 hm
  exact (sp_form V h1 hin hlow).read hl h2 h3

/-! A byte that may not stand in a text. -/
def HasErr (ms : List Lx) : Prop := ∃ p e, Lx.err p e ∈ ms
def LexBad (l : List UInt8) : Prop := ∀ q b, HasErr (lexes (l ++ b) q)
theorem HasErr.behind {ms : List Lx} (h : HasErr ms) (a : List Lx) : HasErr (a ++ ms) := by
  obtain ⟨p, e, h⟩ := h
  exact ⟨p, e, List.mem_append_right _ h⟩
theorem LexBad.front {l : List UInt8} (h : LexBad l) (r : List UInt8) : LexBad (l ++ r) := fun q b => by rw [List.append_assoc]; exact h q _
theorem LexBad.sp {V : JV} {l r : List UInt8} (h : Sp V l) (hs : ∀ b, StopN (r ++ b)) (hr : LexBad r) : LexBad (l ++ r) := fun q b => by
  obtain ⟨m0, pre, h1, -, -⟩ := h q (r ++ b) (hs b)
  rw [List.append_assoc, h1]
  exact HasErr.behind (hr _ b) (.tok m0 :: pre)
theorem LexBad.sign {c : UInt8} {r : List UInt8} (hc : signOf c ≠ 0) (hr : LexBad r) : LexBad (c :: r) := fun q b => by
  rw [List.cons_append, lexes_sign c _ q (blank_sign hc) hc]
  exact HasErr.behind (hr _ b) [_]
theorem strQ_low : ∀ (rs : List Int), (∀ r ∈ rs, isRune r) → lowL (rs.flatMap encP) = true → ∀ (rest out : List UInt8), (strQ (escL (rs.flatMap encP) ++ rest) out).2.2 ≠ 0
  | [], _, h, _, _ => by simp [lowL] at h
  | r :: rs, hrs, h, rest, out => by
    rw [List.flatMap_cons] at h ⊢
    have hr := hrs r (by simp)
    by_cases hlow : lowL (encP r) = true
    · have he : ∃ c, encP r = [c] ∧ c.toNat < 32 := by
        rcases enc_bytes hr with ⟨h1, h2⟩ | ⟨h1, h2⟩
        · rw [h2] at hlow
          exact ⟨_, h2, by simpa [lowL] using hlow⟩
        · unfold lowL at hlow
          rw [List.any_eq_true] at hlow
          obtain ⟨c, hc, hc2⟩ := hlow
          have := h2 c hc
          simp at hc2
          omega
      obtain ⟨c, he, hc⟩ := he
      have hes : escL (encP r) = [c] := by rw [he]; exact esc_same fun x hx => by simp at hx; subst hx; omega
      rw [escL_app, hes, List.append_assoc, List.singleton_append, strQ_step, if_neg (by omega)]
      have hi : (itemP (c :: (escL (rs.flatMap encP) ++ rest))).2.2 = 3 := by rw [itemP, if_pos hc]
      rw [if_pos (by rw [hi]; decide), hi]
      decide
    · have hlow' : lowL (rs.flatMap encP) = true := by
        unfold lowL at h hlow ⊢
        rw [List.any_append, Bool.or_eq_true] at h
        rcases h with h | h
        · exact absurd h hlow
        · exact h
      obtain ⟨c, x, h1, h2, h3⟩ := enc_item hr (noLow_of (by simpa using hlow))
      rw [escL_app, h1, List.append_assoc, List.cons_append, strQ_step, if_neg h2, h3, if_neg (by simp)]
      by_cases h4 : 4096 < out.length + (encP r).length
      · rw [if_pos h4]; decide
      · rw [if_neg h4, strT_err]
        show (strQ (List.drop (x.length + 1) (c :: (x ++ (escL (rs.flatMap encP) ++ rest)))) (out ++ encP r)).2.2 ≠ 0
        rw [List.drop_succ_cons, List.drop_left]
        exact strQ_low rs (fun y hy => hrs y (by simp [hy])) hlow' rest _
theorem quote_bad {s : ByteArray} (h : writ s = true) (hl : lowL s.data.toList = true) : LexBad (quoteL s.data.toList) := fun q b => by
  obtain ⟨rs, h1, h2⟩ := writ_runes h
  rw [h2] at hl
  have h3 := strQ_low rs h1 hl ([34] ++ b) []
  have h4 : (tokB (quoteL s.data.toList ++ b)).e ≠ 0 := by
    unfold tokB
    rw [show quoteL s.data.toList ++ b = 34 :: (escL s.data.toList ++ ([34] ++ b)) by simp [quoteL], blanks_quote, List.drop_zero, tokP, if_neg (by decide), if_pos (by decide), textP_e, h2]
    exact h3
  rw [lexes_step, if_pos h4]
  exact ⟨_, _, List.mem_singleton.2 rfl⟩
theorem bad_items : ∀ {its : List JV} {a : UInt8}, (∀ x ∈ its, (lowV x = false → Sp x (formV x)) ∧ (lowV x = true → LexBad (formV x))) → lowVs its = true → signOf a ≠ 0 → LexBad (joinC (formVs its) ++ [a])
  | [], _, _, h, _ => by simp [lowVs] at h
  | [x], a, hx, h, ha => by
    rw [lowVs, Bool.or_eq_true] at h
    rcases h with h | h
    · exact ((hx x (by simp)).2 h).front _
    · simp [lowVs] at h
  | x :: y :: its, a, hx, h, ha => by
    have e : joinC (formVs (x :: y :: its)) ++ [a] = formV x ++ 44 :: (joinC (formVs (y :: its)) ++ [a]) := by simp [formVs, joinC]
    rw [e]
    by_cases hl : lowV x = true
    · exact ((hx x (by simp)).2 hl).front _
    · rw [lowVs, Bool.or_eq_true] at h
      rcases h with h | h
      · exact absurd h hl
      · exact LexBad.sp ((hx x (by simp)).1 (by simpa using hl)) (fun b => stop_sign _ (by decide)) (.sign (by decide) (bad_items (fun z hz => hx z (by simp [hz])) h ha))
theorem tok_bad {q v : List UInt8} {t : List UInt8} (hne : q ≠ []) (hbl : blanks q = 0) (ht : tokP q = ⟨10, q.length, 0, t, 0⟩) (hs : ∀ b, StopN (v ++ b)) (h : LexBad v) : LexBad (q ++ v) := fun p b => by
  rw [List.append_assoc, lexes_one hne hbl ht (by decide) (hs b)]
  exact HasErr.behind (h _ b) [_]
theorem bad_members : ∀ {names : List ByteArray} {its : List JV}, names.length = its.length → names.all writ = true → (∀ x ∈ its, (lowV x = false → Sp x (formV x)) ∧ (lowV x = true → LexBad (formV x))) → (names.any (fun s => lowL s.data.toList) || lowVs its) = true →
    LexBad (joinC ((names.zip (formVs its)).map fun p => quoteL p.1.data.toList ++ 58 :: p.2) ++ [125])
  | [], [], _, _, _, h => by simp [lowVs] at h
  | [s], [x], _, hw, hx, h => by
    rw [List.all_cons, Bool.and_eq_true] at hw
    have e : joinC (([s].zip (formVs [x])).map fun p => quoteL p.1.data.toList ++ 58 :: p.2) ++ [125] = (quoteL s.data.toList ++ 58 :: formV x) ++ [125] := rfl
    rw [e]
    refine LexBad.front ?_ _
    by_cases hs : lowL s.data.toList = true
    · exact (quote_bad hw.1 hs).front _
    · have hl : lowV x = true := by simpa [lowVs, hs] using h
      exact tok_bad (by simp [quoteL]) (blanks_quote _) (quote_tok hw.1 (noLow_of (by simpa using hs))) (fun b => stop_sign _ (by decide)) (.sign (by decide) ((hx x (by simp)).2 hl))
  | s :: s2 :: names, x :: y :: its, hlen, hw, hx, h => by
    have hw' := hw
    rw [List.all_cons, Bool.and_eq_true] at hw
    have e : joinC (((s :: s2 :: names).zip (formVs (x :: y :: its))).map fun p => quoteL p.1.data.toList ++ 58 :: p.2) ++ [125] = quoteL s.data.toList ++ 58 :: (formV x ++ 44 :: (joinC (((s2 :: names).zip (formVs (y :: its))).map fun p => quoteL p.1.data.toList ++ 58 :: p.2) ++ [125])) := by simp [formVs, joinC]
    rw [e]
    by_cases hs : lowL s.data.toList = true
    · exact (quote_bad hw.1 hs).front _
    · refine tok_bad (by simp [quoteL]) (blanks_quote _) (quote_tok hw.1 (noLow_of (by simpa using hs))) (fun b => stop_sign _ (by decide)) (.sign (by decide) ?_)
      by_cases hl : lowV x = true
      · exact ((hx x (by simp)).2 hl).front _
      · refine LexBad.sp ((hx x (by simp)).1 (by simpa using hl)) (fun b => stop_sign _ (by decide)) (.sign (by decide) (bad_members (by simpa using hlen) hw.2 (fun z hz => hx z (by simp [hz])) ?_))
        simp only [List.any_cons, lowVs] at h ⊢
        have hs' : lowL s.data.toList = false := by simpa using hs
        have hl' : lowV x = false := by simpa using hl
        rw [hs', hl', Bool.false_or, Bool.false_or] at h
        exact h
mutual
theorem bad_form : ∀ (V : JV), goodV V = true → inV V → lowV V = true → LexBad (formV V)
  | .mk k n t names items, hg, hin, hlow => by
    have hp : properB (.mk k n t names items) = true := by rw [goodV_eq, Bool.and_eq_true] at hg; exact hg.1
    have hparts := proper_parts hp
    simp only [JV.k, JV.n, JV.t, JV.names, JV.items] at hparts
    rw [lowV_eq] at hlow
    simp only [JV.t, JV.names, JV.items] at hlow
    rw [inV] at hin
    rcases hparts with ⟨rfl, hn, ht, rfl, rfl⟩ | ⟨rfl, ht, rfl, rfl⟩ | ⟨rfl, rfl, rfl, rfl⟩ | ⟨rfl, rfl, ht, rfl⟩ | ⟨rfl, rfl, ht, hl⟩
    · rw [ht] at hlow; simp [lowL, lowVs] at hlow
    · rw [ht] at hlow; simp [lowL, lowVs] at hlow
    · have hw : writ t = true := proper_text hp rfl
      have hlt : lowL t.data.toList = true := by simpa [lowVs] using hlow
      exact quote_bad hw hlt
    · rw [ht] at hlow
      have hgi : goodVs items = true := by rw [goodV_eq, Bool.and_eq_true] at hg; exact hg.2
      exact .sign (by decide) (bad_items (bads_form items hgi hin.2.2) (by simpa [lowL] using hlow) (by decide))
    · rw [ht] at hlow
      have hgi : goodVs items = true := by rw [goodV_eq, Bool.and_eq_true] at hg; exact hg.2
      obtain ⟨-, h1, h2⟩ := proper_obj hp rfl
      exact .sign (by decide) (bad_members hl h2 (bads_form items hgi hin.2.2) (by simpa [lowL] using hlow))
theorem bads_form : ∀ (l : List JV), goodVs l = true → inVs l → ∀ x ∈ l, (lowV x = false → Sp x (formV x)) ∧ (lowV x = true → LexBad (formV x))
  | [], _, _, x, hx => by cases hx
  | y :: r, hg, hin, x, hx => by
    rw [goodVs, Bool.and_eq_true] at hg
    rw [inVs] at hin
    rcases List.mem_cons.1 hx with e | hx
    · rw [e]
      exact ⟨sp_form y hg.1 hin.1, bad_form y hg.1 hin.1⟩
    · exact bads_form r hg.2 hin.2 x hx
end
theorem back_bad {V : JV} (hm : mayB V = true) (hin : inV V) (hlow : lowV V = true) : ∃ p e, readV (formV V) = .bad p e := by
  obtain ⟨h1, h2, h3⟩ := (mayB_iff V).1 hm
  cases hr : readV (formV V) with
  | bad p e => exact ⟨p, e, rfl⟩
  | ok W ms c =>
    obtain ⟨-, m0, pre, hlex, ht, -⟩ := readV_ok hr
    obtain ⟨p, e, hb⟩ := bad_form V h1 hin hlow 0 []
    rw [List.append_nil, hlex] at hb
    simp only [List.mem_cons, List.mem_append, reduceCtorEq, List.not_mem_nil, or_false, false_or] at hb
    obtain ⟨m, hm⟩ := ht _ hb
    cases hm
end Go.Proofs.YtfdecbfcddkoiaaGreatDoor
