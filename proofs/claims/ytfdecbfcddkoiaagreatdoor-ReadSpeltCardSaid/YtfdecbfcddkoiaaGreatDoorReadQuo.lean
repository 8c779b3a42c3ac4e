/-
  Texts as they are quoted, and objects of two names (plain).
-/
import Derived.Test.YtfdecbfcddkoiaaGreatDoorReadSp
import Derived.Test.YtfdecbfcddkoiaaGreatDoorReadUtf
namespace Go.Proofs.YtfdecbfcddkoiaaGreatDoor
open Go.RowKit

theorem u8_back (c : UInt8) (n : Nat) (h : c.toNat = n) : UInt8.ofNat n = c := by rw [← h]; exact UInt8.ofNat_toNat
/-- The bytes of the rune that bytes begin are these bytes. -/
theorem enc_next {l : List UInt8} (h : (nextP l).2.2 = 0) : encP (nextP l).1 = l.take (nextP l).2.1.toNat := by
  match l with
  | [] => simp [nextP] at h
  | c :: r =>
    have hc := u8_lt c
    by_cases h1 : c.toNat < 128
    · rw [next1 r h1]
      show encP (c.toNat : Int) = (c :: r).take 1
      unfold encP
      rw [if_pos (by omega), Int.toNat_natCast, u8_back c _ rfl]
      rfl
    · by_cases h2 : c.toNat < 194 ∨ 244 < c.toNat
      · rw [next_bad r h1 h2] at h; simp at h
      · by_cases h3 : c.toNat < 224
        · rw [next2 r (by omega) h3] at h ⊢
          match r with
          | [] => simp [next2P] at h
          | d :: r =>
            have hd0 := u8_lt d
            rw [next2P] at h ⊢
            split at h
            · simp at h
            · rename_i hd
              rw [if_neg hd]
              show encP (((c.toNat : Int) - 192) * 64 + ((d.toNat : Int) - 128)) = [c, d]
              unfold encP
              rw [if_neg (by omega), if_pos (by omega), u8_back c _ (by omega), u8_back d _ (by omega)]
        · by_cases h5 : c.toNat < 240
          · rw [next3 r h3 h5] at h ⊢
            match r with
            | [] => simp [next3P] at h
            | d :: r =>
              have hd0 := u8_lt d
              rw [next3P] at h ⊢
              split at h
              · rename_i hd
                rw [if_pos hd]
                unfold ok3 at hd
                match r with
                | [] => simp [next3Q] at h
                | e :: r =>
                  have he0 := u8_lt e
                  rw [next3Q] at h ⊢
                  split at h
                  · simp at h
                  · rename_i he
                    rw [if_neg he]
                    show encP (((c.toNat : Int) - 224) * 4096 + ((d.toNat : Int) - 128) * 64 + ((e.toNat : Int) - 128)) = [c, d, e]
                    unfold encP
                    rw [if_neg (by omega), if_neg (by omega), if_pos (by omega), u8_back c _ (by omega), u8_back d _ (by omega), u8_back e _ (by omega)]
              · simp at h
          · rw [next4 r h5 (by omega)] at h ⊢
            match r with
            | [] => simp [next4P] at h
            | d :: r =>
              have hd0 := u8_lt d
              rw [next4P] at h ⊢
              split at h
              · rename_i hd
                rw [if_pos hd]
                unfold ok4 at hd
                match r with
                | [] => simp [next4Q] at h
                | e :: r =>
                  have he0 := u8_lt e
                  rw [next4Q] at h ⊢
                  split at h
                  · simp at h
                  · rename_i he
                    rw [if_neg he]
                    match r with
                    | [] => simp [next4R] at h
                    | f :: r =>
                      have hf0 := u8_lt f
                      rw [next4R] at h ⊢
                      split at h
                      · simp at h
                      · rename_i hf
                        rw [if_neg hf]
                        show encP (((c.toNat : Int) - 240) * 262144 + ((d.toNat : Int) - 128) * 4096 + ((e.toNat : Int) - 128) * 64 + ((f.toNat : Int) - 128)) = [c, d, e, f]
                        unfold encP
                        rw [if_neg (by omega), if_neg (by omega), if_neg (by omega), u8_back c _ (by omega), u8_back d _ (by omega), u8_back e _ (by omega), u8_back f _ (by omega)]
              · simp at h
/-- A text of UTF-8 is a row of runes. -/
theorem runes_of : ∀ (f : Nat) (l : List UInt8), l.length ≤ f → lenGo l f = true → ∃ rs : List Int, (∀ r ∈ rs, isRune r) ∧ l = rs.flatMap encP
  | 0, l, hl, _ => ⟨[], by simp, by simpa using hl⟩
  | f + 1, l, hl, h => by
    rw [lenGo] at h
    by_cases e : l = []
    · exact ⟨[], by simp, by simp [e]⟩
    rw [if_neg e] at h
    by_cases h0 : (nextP l).2.2 = 0
    · rw [if_pos h0] at h
      obtain ⟨a, b⟩ := next_size l h0
      obtain ⟨rs, h1, h2⟩ := runes_of f (l.drop (nextP l).2.1.toNat) (by rw [List.length_drop]; omega) h
      refine ⟨(nextP l).1 :: rs, fun r hr => ?_, ?_⟩
      · rw [List.mem_cons] at hr
        rcases hr with rfl | hr
        · exact nextP_rune l h0
        · exact h1 r hr
      · rw [List.flatMap_cons, enc_next h0, ← h2, List.take_append_drop]
    · rw [if_neg h0] at h; simp at h
theorem writ_runes {s : ByteArray} (h : writ s = true) : ∃ rs : List Int, (∀ r ∈ rs, isRune r) ∧ s.data.toList = rs.flatMap encP := by
  unfold writ at h
  rw [Bool.and_eq_true, utfOK_len] at h
  exact runes_of _ _ (by rw [size_len]; exact Nat.le_refl _) h.2
theorem escL_app (a b : List UInt8) : escL (a ++ b) = escL a ++ escL b := by simp [escL]
theorem esc_same : ∀ {l : List UInt8}, (∀ c ∈ l, c.toNat ≠ 34 ∧ c.toNat ≠ 92) → escL l = l
  | [], _ => rfl
  | c :: l, h => by
    have h1 := h c (by simp)
    rw [escL_cons, esc_same fun x hx => h x (by simp [hx])]
    unfold escB
    rw [if_neg (by omega)]
    rfl
/-- The bytes of a rune: one, or all from 128 on. -/
theorem enc_bytes {r : Int} (hr : isRune r) : (r < 128 ∧ encP r = [UInt8.ofNat r.toNat]) ∨ (128 ≤ r ∧ ∀ c ∈ encP r, 128 ≤ c.toNat) := by
  obtain ⟨h0, h1, h2⟩ := hr
  obtain ⟨n, rfl⟩ : ∃ n : Nat, r = n := ⟨r.toNat, by omega⟩
  by_cases a1 : (n : Int) < 128
  · exact Or.inl ⟨a1, by unfold encP; rw [if_pos a1]⟩
  refine Or.inr ⟨by omega, fun c hc => ?_⟩
  unfold encP at hc
  rw [if_neg a1, Int.toNat_natCast] at hc
  have key : ∀ m : Nat, 128 ≤ m → m < 256 → 128 ≤ (UInt8.ofNat m).toNat := fun m g1 g2 => by rw [u8_of m g2]; exact g1
  repeat' split at hc
  all_goals (simp only [List.mem_cons, List.not_mem_nil, or_false] at hc; rcases hc with rfl | rfl | rfl | rfl <;> exact key _ (by omega) (by omega)) <;> skip
/-- A rune, as it stands in a quoted text. -/
theorem enc_item {r : Int} (hr : isRune r) (hlow : ∀ c ∈ encP r, 32 ≤ c.toNat) : ∃ c x, escL (encP r) = c :: x ∧ c.toNat ≠ 34 ∧ ∀ rest, itemP (c :: (x ++ rest)) = (r, x.length + 1, 0) := by
  have key : ∀ c x, encP r = c :: x → c.toNat ≠ 34 → c.toNat ≠ 92 → ∀ rest, itemP (c :: (x ++ rest)) = (r, x.length + 1, 0) := fun c x he h1 h2 rest => by
    have hn := next_enc r hr rest
    rw [he, List.cons_append] at hn
    have h32 := hlow c (by rw [he]; simp)
    rw [itemP, if_neg (by omega), if_pos h2, hn, if_neg (by simp)]
    simp only [List.length_cons, Int.toNat_natCast]
  rcases enc_bytes hr with ⟨h1, h2⟩ | ⟨h1, h2⟩
  · have h0 := hr.1
    obtain ⟨n, rfl⟩ : ∃ n : Nat, r = n := ⟨r.toNat, by omega⟩
    rw [Int.toNat_natCast] at h2
    have hn := u8_of n (by omega)
    by_cases e1 : n = 34
    · subst e1
      exact ⟨92, [34], by rw [h2]; decide, by decide, fun rest => by rw [itemP]; rfl⟩
    · by_cases e2 : n = 92
      · subst e2
        exact ⟨92, [92], by rw [h2]; decide, by decide, fun rest => by rw [itemP]; rfl⟩
      · refine ⟨UInt8.ofNat n, [], by rw [h2]; exact esc_same fun c hc => by simp at hc; subst hc; omega, by omega, key _ [] h2 (by omega) (by omega)⟩
  · have hs : escL (encP r) = encP r := esc_same fun c hc => by have := h2 c hc; omega
    match he : encP r with
    | [] => have := (encP_len r).1; rw [he] at this; simp at this
    | c :: x =>
      rw [he] at hs
      have := h2 c (by rw [he]; simp)
      exact ⟨c, x, hs, by omega, key c x he (by omega) (by omega)⟩
theorem esc_sp : ∀ (rs : List Int), (∀ r ∈ rs, isRune r) → (∀ c ∈ rs.flatMap encP, 32 ≤ c.toNat) → SpT (rs.flatMap encP) (escL (rs.flatMap encP))
  | [], _, _ => .nil
  | r :: rs, h, hl => by
    rw [List.flatMap_cons] at hl ⊢
    obtain ⟨c, x, h1, h2, h3⟩ := enc_item (h r (by simp)) fun c hc => hl c (by simp [hc])
    rw [escL_app, h1, List.cons_append]
    exact .cons h2 h3 (esc_sp rs (fun y hy => h y (by simp [hy])) fun c hc => hl c (List.mem_append_right _ hc))
def NoLow (l : List UInt8) : Prop := ∀ c ∈ l, 32 ≤ c.toNat
theorem sp_quote {s : ByteArray} (h : writ s = true) (hl : NoLow s.data.toList) : SpT s.data.toList (escL s.data.toList) := by
  obtain ⟨rs, h1, h2⟩ := writ_runes h
  rw [NoLow, h2] at hl
  rw [h2]
  exact esc_sp rs h1 hl
theorem writ_len {s : ByteArray} (h : writ s = true) : s.data.toList.length ≤ 4096 := by
  unfold writ at h
  rw [Bool.and_eq_true, decide_eq_true_eq] at h
  rw [size_len]
  exact h.1
theorem quote_tok {s : ByteArray} (h : writ s = true) (hl : NoLow s.data.toList) : tokP (quoteL s.data.toList) = ⟨10, (quoteL s.data.toList).length, 0, s.data.toList, 0⟩ := tok_sp (sp_quote h hl) (writ_len h)
/-- A name, as it is quoted, and a text of JSON. -/
theorem sp_named {s : ByteArray} (h : writ s = true) (hl : NoLow s.data.toList) {V : JV} {v : List UInt8} (hv : Sp V v) : SpM (s, V) 0 (quoteL s.data.toList ++ 58 :: v) :=
  ⟨[], quoteL s.data.toList, [], v, rfl, rfl, (fun c hc => by cases hc), (fun c hc => by cases hc), by simp [quoteL], blanks_quote _, quote_tok h hl, hv⟩
def pairV (a b : ByteArray) (V W : JV) : JV := if nmLt a b = true then .mk 5 0 ⟨#[]⟩ [a, b] [V, W] else .mk 5 0 ⟨#[]⟩ [b, a] [W, V]
theorem pair_obj (a b : ByteArray) (V W : JV) : objV [(a, V), (b, W)] = pairV a b V W := by
  unfold objV sortM pairV
  simp only [List.foldl, insM]
  split <;> rfl
/-- An object of two names. -/
theorem objects_plain {s t : List UInt8} {V W : JV} {ms1 ms2 : List Lx} {c1 c2 : Nat} (hs : readV s = .ok V ms1 c1) (ht : readV t = .ok W ms2 c2) {a b : ByteArray} (ha : writ a = true) (ha2 : NoLow a.data.toList) (hb : writ b = true) (hb2 : NoLow b.data.toList)
    (hd : depthV V ≤ 11 ∧ depthV W ≤ 11) (hc : countV V + countV W + 1 ≤ 8192) (hlen : s.length + t.length + (quoteL a.data.toList).length + (quoteL b.data.toList).length + 5 ≤ 65536) :
    (a ≠ b → ∃ ms c, readV (123 :: (quoteL a.data.toList ++ 58 :: (s ++ 44 :: (quoteL b.data.toList ++ 58 :: (t ++ [125]))))) = .ok (pairV a b V W) ms c) ∧
    (a = b → readV (123 :: (quoteL a.data.toList ++ 58 :: (s ++ 44 :: (quoteL b.data.toList ++ 58 :: (t ++ [125]))))) = .bad (3 + (quoteL a.data.toList).length + s.length) 7) := by
  have e : (123 :: (quoteL a.data.toList ++ 58 :: (s ++ 44 :: (quoteL b.data.toList ++ 58 :: (t ++ [125]))))) = 123 :: ([] ++ (joinC [quoteL a.data.toList ++ 58 :: s, quoteL b.data.toList ++ 58 :: t] ++ [125])) := by simp [joinC]
  have m1 := sp_named ha ha2 (sp_of_read hs)
  have m2 := sp_named hb hb2 (sp_of_read ht)
  constructor
  · intro hne
    have hap : Apart [(a, V), (b, W)] := by
      unfold Apart
      simp only [List.pairwise_cons, List.mem_singleton, List.not_mem_nil, false_implies, implies_true, List.Pairwise.nil, and_true, forall_eq]
      exact fun h => hne (bytes_ext h)
    have hsp := sp_obj (.cons m1 (.cons m2 .nil)) hap (a := []) (fun c hc => by cases hc)
    rw [← e, pair_obj] at hsp
    have hk := obj_counts [(a, V), (b, W)]
    rw [pair_obj] at hk
    simp only [List.map_cons, List.map_nil, countL, depthL] at hk
    obtain ⟨ms, h⟩ := hsp.read (by simp only [List.length_cons, List.length_append, List.length_nil]; omega) (by rw [hk.2]; omega) (by rw [hk.1]; omega)
    exact ⟨ms, _, h⟩
  · rintro rfl
    have lA := lexes_sign 123 (quoteL a.data.toList ++ 58 :: (s ++ 44 :: (quoteL a.data.toList ++ 58 :: (t ++ [125])))) 0 (by decide) (by decide)
    obtain ⟨x1, p1, l1, k1, n1, -, g1⟩ := sp_mem m1 (0 + 1) (44 :: (quoteL a.data.toList ++ 58 :: (t ++ [125]))) (stop_sign _ (by decide))
    have lB := lexes_sign 44 (quoteL a.data.toList ++ 58 :: (t ++ [125])) (0 + 1 + (quoteL a.data.toList ++ 58 :: s).length) (by decide) (by decide)
    obtain ⟨x2, p2, l2, k2, n2, a2, -⟩ := sp_mem m2 (0 + 1 + (quoteL a.data.toList ++ 58 :: s).length + 1) [125] (stop_sign _ (by decide))
    simp only [List.append_assoc, List.cons_append] at l1 l2
    rw [lB, l2] at l1
    rw [l1] at lA
    unfold readV
    rw [if_neg (by simp only [List.length_cons, List.length_append, List.length_nil]; omega), lA]
    show topP _ _ = _
    unfold topP
    generalize (p2 ++ lexes [125] _) = A2 at *
    have e1 : ∀ A, valP 12 ⟨signOf 123, 0, 0 + 1, 0, []⟩ (.tok x1 :: (p1 ++ A)) 0 = membersP (valP 11) ((p1 ++ A).length + 1) x1 (p1 ++ A) 1 [] := fun A => by
      rw [valP, if_neg (by decide), if_neg (by decide), if_neg (by decide)]
      show objP (valP 11) (.tok x1 :: (p1 ++ A)) 1 = _
      unfold objP
      show (if x1.k = 2 then _ else membersP (valP 11) ((p1 ++ A).length + 1) x1 (p1 ++ A) 1 []) = _
      rw [if_neg (by omega)]
    rw [e1, g1 _ 11 1 [] _ hd.1 (by show 1 + countV V ≤ 8192; omega) rfl]
    obtain ⟨F, hF⟩ : ∃ F, (p1 ++ Lx.tok ⟨signOf 44, 0 + 1 + (quoteL a.data.toList ++ 58 :: s).length, 0 + 1 + (quoteL a.data.toList ++ 58 :: s).length + 1, 0, []⟩ :: Lx.tok x2 :: A2).length = F + 1 := ⟨p1.length + A2.length + 1, by simp only [List.length_append, List.length_cons]; omega⟩
    rw [hF]
    show (match membersP (valP 11) (F + 1) x2 A2 _ [(a, V)] with | .bad p e => _ | .ok v ms c => _) = _
    have hh : hasN [(a, V)] a = true := by simp [hasN]
    have n2' : x2.name = a := n2
    rw [membersP, if_neg (by omega), n2', if_pos hh, a2]
    simp only [List.length_append, List.length_cons]
    congr 1
    omega
end Go.Proofs.YtfdecbfcddkoiaaGreatDoor
