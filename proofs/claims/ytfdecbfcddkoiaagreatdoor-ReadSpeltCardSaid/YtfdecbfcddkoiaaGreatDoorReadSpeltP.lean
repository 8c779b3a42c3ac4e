/-
  How the law ReadSpelt writes a value, plainly; that it says that value.
-/
import Derived.Test.YtfdecbfcddkoiaaGreatDoorCanonBackP
namespace Go.Proofs.YtfdecbfcddkoiaaGreatDoor
open Go.RowKit

/-- The next number of a row that begins anew. -/
def nextS (how : List UInt8) (n : Nat) : Nat × Nat := if how = [] then (0, n) else ((how.getD (n % how.length) 0).toNat, n + 1)
def blankL (k : Nat) : List UInt8 := match k % 8 with | 1 => [32] | 2 => [9] | 3 => [10] | 4 => [13] | 5 => [32, 10, 32] | _ => []
def blankS (how : List UInt8) (n : Nat) : List UInt8 × Nat := (blankL (nextS how n).1, (nextS how n).2)
def hexD (d : Nat) (big : Bool) : UInt8 := if d < 10 then UInt8.ofNat (48 + d) else if big then UInt8.ofNat (55 + d) else UInt8.ofNat (87 + d)
def fourS (v : Nat) (big : Bool) : List UInt8 := [hexD (v / 4096 % 16) big, hexD (v / 256 % 16) big, hexD (v / 16 % 16) big, hexD (v % 16) big]
def digS (v : Nat) (big : Bool) : List UInt8 := 92 :: 117 :: fourS v big
/-- A rune, as it stands or by its number. -/
def itemS (r : Int) (k : Nat) : List UInt8 :=
  if 32 ≤ r ∧ r ≠ 34 ∧ r ≠ 92 ∧ 0 < k % 3 then encP r
  else if 65535 < r then digS (55296 + (r.toNat - 65536) / 1024) (decide (k % 2 = 0)) ++ digS (56320 + (r.toNat - 65536) % 1024) (decide (k % 4 < 2))
  else digS r.toNat (decide (k % 2 = 0))
def textS (how : List UInt8) : List Int → Nat → List UInt8 × Nat
  | [], n => ([], n)
  | r :: rs, n => (itemS r (nextS how n).1 ++ (textS how rs (nextS how n).2).1, (textS how rs (nextS how n).2).2)
/-- The runes of a text. -/
def runesGo : Nat → List UInt8 → List Int
  | 0, _ => []
  | f + 1, l => if l = [] then [] else (nextP l).1 :: runesGo f (l.drop (nextP l).2.1.toNat)
def runesB (s : ByteArray) : List Int := runesGo s.size s.data.toList
def quoteS (how : List UInt8) (s : ByteArray) (n : Nat) : List UInt8 × Nat := (34 :: ((textS how (runesB s) n).1 ++ [34]), (textS how (runesB s) n).2)
def seqS {α : Type} (one : α → Nat → List UInt8 × Nat) : List α → Nat → List (List UInt8) × Nat
  | [], n => ([], n)
  | x :: r, n => ((one x n).1 :: (seqS one r (one x n).2).1, (seqS one r (one x n).2).2)
def rot {α : Type} (k : Nat) (l : List α) : List α := l.drop (k % l.length) ++ l.take (k % l.length)
def memS (how : List UInt8) (val : JV → Nat → List UInt8 × Nat) (x : Mem) (n : Nat) : List UInt8 × Nat :=
  ((blankS how n).1 ++ ((quoteS how x.1 (blankS how n).2).1 ++ ((blankS how (quoteS how x.1 (blankS how n).2).2).1 ++ 58 :: (val x.2 (blankS how (quoteS how x.1 (blankS how n).2).2).2).1)),
    (val x.2 (blankS how (quoteS how x.1 (blankS how n).2).2).2).2)
def bodyS (how : List UInt8) (val : JV → Nat → List UInt8 × Nat) (V : JV) (n : Nat) : List UInt8 × Nat :=
  if V.k = 1 then (if V.n = 1 then [116, 114, 117, 101] else [102, 97, 108, 115, 101], n)
  else if V.k = 2 then (Lib.itoa V.n, n)
  else if V.k = 3 then quoteS how V.t n
  else if V.k = 4 then (91 :: ((blankS how n).1 ++ (joinC (seqS val V.items (blankS how n).2).1 ++ [93])), (seqS val V.items (blankS how n).2).2)
  else if V.k = 5 then (123 :: ((blankS how n).1 ++ (joinC (seqS (memS how val) (rot (nextS how (blankS how n).2).1 (V.names.zip V.items)) (nextS how (blankS how n).2).2).1 ++ [125])), (seqS (memS how val) (rot (nextS how (blankS how n).2).1 (V.names.zip V.items)) (nextS how (blankS how n).2).2).2)
  else ([], n)
/-- A value, with blanks before and behind each mark. -/
def valS (how : List UInt8) : Nat → JV → Nat → List UInt8 × Nat
  | 0, _, n => ([], n)
  | f + 1, V, n => ((blankS how n).1 ++ ((bodyS how (valS how f) V (blankS how n).2).1 ++ (blankS how (bodyS how (valS how f) V (blankS how n).2).2).1), (blankS how (bodyS how (valS how f) V (blankS how n).2).2).2)

theorem blankL_blank (k : Nat) : Blank (blankL k) := by
  have : ∀ j : Fin 8, ∀ c ∈ (match j.val with | 1 => [32] | 2 => [9] | 3 => [10] | 4 => [13] | 5 => [32, 10, 32] | _ => ([] : List UInt8)), isBlank c = true := by decide
  exact this ⟨k % 8, Nat.mod_lt _ (by decide)⟩
theorem hexV_hexD (d : Nat) (hd : d < 16) (big : Bool) : hexV (hexD d big) = d := by
  have : ∀ d : Fin 16, ∀ big, hexV (hexD d.val big) = (d.val : Int) := by decide
  exact this ⟨d, hd⟩ big
theorem fourP_S (v : Nat) (hv : v < 65536) (big : Bool) (rest : List UInt8) : fourP (fourS v big ++ rest) = ((v : Int), 0) := by
  have h1 := hexV_hexD (v / 4096 % 16) (by omega) big
  have h2 := hexV_hexD (v / 256 % 16) (by omega) big
  have h3 := hexV_hexD (v / 16 % 16) (by omega) big
  have h4 := hexV_hexD (v % 16) (by omega) big
  show fourGo 4 0 (hexD (v / 4096 % 16) big :: hexD (v / 256 % 16) big :: hexD (v / 16 % 16) big :: hexD (v % 16) big :: rest) = _
  rw [fourGo, h1, if_neg (by omega), fourGo, h2, if_neg (by omega), fourGo, h3, if_neg (by omega), fourGo, h4, if_neg (by omega), fourGo]
  simp only [Prod.mk.injEq, and_true]
  omega
theorem enc_raw {r : Int} (hr : isRune r) (h1 : 32 ≤ r) (h2 : r ≠ 34) (h3 : r ≠ 92) : ∃ c x, encP r = c :: x ∧ c.toNat ≠ 34 ∧ ∀ rest, itemP (c :: (x ++ rest)) = (r, x.length + 1, 0) := by
  have key : ∀ c x, encP r = c :: x → 32 ≤ c.toNat → c.toNat ≠ 92 → ∀ rest, itemP (c :: (x ++ rest)) = (r, x.length + 1, 0) := fun c x he h1 h2 rest => by
    have hn := next_enc r hr rest
    rw [he, List.cons_append] at hn
    rw [itemP, if_neg (by omega), if_pos h2, hn, if_neg (by simp)]
    simp only [List.length_cons, Int.toNat_natCast]
  rcases enc_bytes hr with ⟨g1, g2⟩ | ⟨g1, g2⟩
  · obtain ⟨n, rfl⟩ : ∃ n : Nat, r = n := ⟨r.toNat, by omega⟩
    rw [Int.toNat_natCast] at g2
    have hn := u8_of n (by omega)
    exact ⟨_, [], g2, by omega, key _ [] g2 (by omega) (by omega)⟩
  · match he : encP r with
    | [] => have := (encP_len r).1; rw [he] at this; simp at this
    | c :: x =>
      have := g2 c (by rw [he]; simp)
      exact ⟨c, x, rfl, by omega, key c x he (by omega) (by omega)⟩
theorem escP_u (r : List UInt8) : escP (117 :: r) = if (codedP r).2.2 ≠ 0 then (0, 0, (codedP r).2.2) else ((codedP r).1, (codedP r).2.1 + 1, 0) := by
  rw [escP, if_pos (by decide)]
theorem item_spelt {r : Int} (hr : isRune r) (k : Nat) : ∃ c x, itemS r k = c :: x ∧ c.toNat ≠ 34 ∧ ∀ rest, itemP (c :: (x ++ rest)) = (r, x.length + 1, 0) := by
  unfold itemS
  by_cases h1 : 32 ≤ r ∧ r ≠ 34 ∧ r ≠ 92 ∧ 0 < k % 3
  · rw [if_pos h1]
    exact enc_raw hr h1.1 h1.2.1 h1.2.2.1
  rw [if_neg h1]
  obtain ⟨r0, r1, r2⟩ := hr
  obtain ⟨n, rfl⟩ : ∃ n : Nat, r = n := ⟨r.toNat, by omega⟩
  rw [Int.toNat_natCast]
  by_cases h2 : (65535 : Int) < n
  · rw [if_pos h2]
    generalize decide (k % 2 = 0) = b1
    generalize decide (k % 4 < 2) = b2
    refine ⟨92, 117 :: (fourS (55296 + (n - 65536) / 1024) b1 ++ digS (56320 + (n - 65536) % 1024) b2), rfl, by decide, fun rest => ?_⟩
    have hA : 55296 + (n - 65536) / 1024 < 56320 := by omega
    have hB : 56320 + (n - 65536) % 1024 < 57344 := by omega
    obtain ⟨A, eA⟩ : ∃ A, 55296 + (n - 65536) / 1024 = A := ⟨_, rfl⟩
    obtain ⟨B, eB⟩ : ∃ B, 56320 + (n - 65536) % 1024 = B := ⟨_, rfl⟩
    rw [eA] at hA ⊢
    rw [eB] at hB ⊢
    have f1 := fourP_S A (by omega) b1 (digS B b2 ++ rest)
    have f2 := fourP_S B (by omega) b2 rest
    have hd : List.drop 4 (fourS A b1 ++ (digS B b2 ++ rest)) = 92 :: 117 :: (fourS B b2 ++ rest) := rfl
    have hc : codedP (fourS A b1 ++ (digS B b2 ++ rest)) = ((n : Int), 10, 0) := by
      rw [codedP, f1, if_neg (by simp), if_neg (by simp; omega), if_neg (by simp; omega), hd, pairP, if_neg (by decide), pairQ, if_neg (by decide), f2, if_neg (by simp), if_neg (by simp; omega)]
      simp only [Prod.mk.injEq, and_true]
      omega
    show itemP (92 :: 117 :: (fourS A b1 ++ digS B b2 ++ rest)) = _
    rw [List.append_assoc, itemP, if_neg (by decide), if_neg (by decide), escP_u, hc]
    rfl
  · rw [if_neg h2]
    generalize decide (k % 2 = 0) = b1
    refine ⟨92, 117 :: fourS n b1, rfl, by decide, fun rest => ?_⟩
    have f1 := fourP_S n (by omega) b1 rest
    have hc : codedP (fourS n b1 ++ rest) = ((n : Int), 4, 0) := by
      rw [codedP, f1, if_neg (by simp), if_pos (by simp; omega)]
    show itemP (92 :: 117 :: (fourS n b1 ++ rest)) = _
    rw [itemP, if_neg (by decide), if_neg (by decide), escP_u, hc]
    rfl
theorem textS_sp (how : List UInt8) : ∀ (rs : List Int) (n : Nat), (∀ r ∈ rs, isRune r) → SpT (rs.flatMap encP) (textS how rs n).1
  | [], _, _ => .nil
  | r :: rs, n, h => by
    obtain ⟨c, x, h1, h2, h3⟩ := item_spelt (h r (by simp)) (nextS how n).1
    rw [List.flatMap_cons, textS, h1, List.cons_append]
    exact .cons h2 h3 (textS_sp how rs _ fun y hy => h y (by simp [hy]))
/-- The runes of a row of runes. -/
theorem runesGo_enc : ∀ (rs : List Int), (∀ r ∈ rs, isRune r) → ∀ f, (rs.flatMap encP).length ≤ f → runesGo f (rs.flatMap encP) = rs
  | [], _, f, _ => by cases f <;> simp [runesGo]
  | r :: rs, h, f, hf => by
    have hr := h r (by simp)
    have hl := (encP_len r).1
    rw [List.flatMap_cons] at hf ⊢
    rw [List.length_append] at hf
    match f, hf with
    | 0, hf => omega
    | f + 1, hf =>
      have hne : encP r ++ rs.flatMap encP ≠ [] := fun e => by
        have := congrArg List.length e
        rw [List.length_append, List.length_nil] at this
        omega
      rw [runesGo, if_neg hne, next_enc r hr]
      show r :: runesGo f (List.drop ((encP r).length : Int).toNat _) = _
      rw [Int.toNat_natCast, List.drop_left, runesGo_enc rs (fun x hx => h x (by simp [hx])) f (by omega)]
theorem runesB_of {s : ByteArray} {rs : List Int} (h : ∀ r ∈ rs, isRune r) (e : s.data.toList = rs.flatMap encP) : runesB s = rs := by
  unfold runesB
  rw [e]
  exact runesGo_enc rs h _ (by rw [← e, size_len]; exact Nat.le_refl _)
theorem runesB_writ {s : ByteArray} (h : writ s = true) : (∀ r ∈ runesB s, isRune r) ∧ s.data.toList = (runesB s).flatMap encP := by
  obtain ⟨rs, h1, h2⟩ := writ_runes h
  rw [runesB_of h1 h2]
  exact ⟨h1, h2⟩
theorem quoteS_tok (how : List UInt8) {s : ByteArray} (h : writ s = true) (n : Nat) : SpT s.data.toList (textS how (runesB s) n).1 := by
  obtain ⟨h1, h2⟩ := runesB_writ h
  have := textS_sp how (runesB s) n h1
  rw [← h2] at this
  exact this
theorem rot_perm {α : Type} (k : Nat) (l : List α) : (rot k l).Perm l := by
  unfold rot
  exact List.perm_append_comm.trans (by rw [List.take_append_drop])
theorem apart_perm {l l' : List Mem} (h : Apart l) (hp : l'.Perm l) : Apart l' := (List.Perm.pairwise_iff (fun hh => Ne.symm hh) hp).2 h
theorem obj_perm {l l' : List Mem} (h : Apart l) (hp : l'.Perm l) : objV l' = objV l := by
  have e := sorted_one h ((sortM_perm l').trans hp) (sortM_sorted l')
  unfold objV
  rw [e]
theorem seqS_sp {val : JV → Nat → List UInt8 × Nat} : ∀ (its : List JV) (n : Nat), (∀ x ∈ its, ∀ m, Sp x (val x m).1) → Sps its (seqS val its n).1
  | [], _, _ => .nil
  | x :: r, n, h => .cons (h x (by simp) n) (seqS_sp r _ fun y hy => h y (by simp [hy]))
theorem memS_sp (how : List UInt8) {val : JV → Nat → List UInt8 × Nat} {x : Mem} (hw : writ x.1 = true) (h : ∀ m, Sp x.2 (val x.2 m).1) (n : Nat) : SpM x (blankS how n).1.length (memS how val x n).1 :=
  ⟨(blankS how n).1, (quoteS how x.1 (blankS how n).2).1, (blankS how (quoteS how x.1 (blankS how n).2).2).1, _, rfl, rfl, blankL_blank _, blankL_blank _, by simp [quoteS], blanks_quote _, tok_sp (quoteS_tok how hw _) (writ_len hw), h _⟩
theorem seqM_sp (how : List UInt8) {val : JV → Nat → List UInt8 × Nat} : ∀ (its : List Mem) (n : Nat), (∀ x ∈ its, writ x.1 = true ∧ ∀ m, Sp x.2 (val x.2 m).1) → SpMs its (seqS (memS how val) its n).1
  | [], _, _ => .nil
  | x :: r, n, h => .cons (memS_sp how (h x (by simp)).1 (h x (by simp)).2 n) (seqM_sp how r _ fun y hy => h y (by simp [hy]))
theorem inVs_mem : ∀ {l : List JV} {x : JV}, inVs l → x ∈ l → inV x
  | y :: r, x, h, hx => by
    rw [inVs] at h
    rcases List.mem_cons.1 hx with e | hx
    · rw [e]; exact h.1
    · exact inVs_mem h.2 hx
/-- What is written says the value. -/
theorem valS_sp (how : List UInt8) : ∀ (f : Nat) (V : JV) (n : Nat), SizeOf.sizeOf V < f → goodV V = true → inV V → Sp V (valS how f V n).1
  | 0, _, _, h, _, _ => by omega
  | f + 1, .mk k m t names items, n, hf, hg, hin => by
    have hp : properB (.mk k m t names items) = true := by rw [goodV_eq, Bool.and_eq_true] at hg; exact hg.1
    have hparts := proper_parts hp
    have ih : ∀ x ∈ items, goodVs items = true → ∀ p, Sp x (valS how f x p).1 := fun x hx hgi p => by
      have h1 := JV.size_item (v := .mk k m t names items) hx
      rw [inV] at hin
      exact valS_sp how f x p (by omega) (goodVs_mem hgi x hx) (inVs_mem hin.2.2 hx)
    rw [inV] at hin
    rw [valS]
    refine (Sp.behind ?_ (blankL_blank _)).ahead (blankL_blank _)
    generalize (blankS how n).2 = n
    simp only [JV.k, JV.n, JV.t, JV.names, JV.items] at hparts
    unfold bodyS
    simp only [JV.k, JV.n, JV.t, JV.names, JV.items]
    rcases hparts with ⟨rfl, hn, ht, rfl, rfl⟩ | ⟨rfl, ht, rfl, rfl⟩ | ⟨rfl, rfl, rfl, rfl⟩ | ⟨rfl, rfl, ht, rfl⟩ | ⟨rfl, rfl, ht, hl⟩
    · obtain rfl : t = ⟨#[]⟩ := bytes_ext ht
      rcases hn with rfl | rfl
      · exact sp_false
      · exact sp_true
    · obtain rfl : t = ⟨#[]⟩ := bytes_ext ht
      exact sp_num hin.1 hin.2.1
    · have hw : writ t = true := proper_text hp rfl
      exact sp_text (quoteS_tok how hw _) (writ_len hw)
    · obtain rfl : t = ⟨#[]⟩ := bytes_ext ht
      have hgi : goodVs items = true := by rw [goodV_eq, Bool.and_eq_true] at hg; exact hg.2
      exact sp_list (seqS_sp items _ fun x hx => ih x hx hgi) (blankL_blank _)
    · obtain rfl : t = ⟨#[]⟩ := bytes_ext ht
      have hgi : goodVs items = true := by rw [goodV_eq, Bool.and_eq_true] at hg; exact hg.2
      obtain ⟨-, h1, h2⟩ := proper_obj hp rfl
      obtain ⟨h3, h4⟩ := zip_sorted (names := names) (items := items) h1 hl
      have hr := rot_perm (nextS how (blankS how n).2).1 (names.zip items)
      have := sp_obj (seqM_sp how (rot (nextS how (blankS how n).2).1 (names.zip items)) (nextS how (blankS how n).2).2 fun x hx => by
        have hx' := List.of_mem_zip (hr.mem_iff.1 hx)
        exact ⟨List.all_eq_true.1 h2 x.1 hx'.1, ih x.2 hx'.2 hgi⟩) (apart_perm h3 hr) (blankL_blank (nextS how n).1)
      rw [obj_perm h3 hr, h4] at this
      exact this

/-! How much it is. -/
theorem nextS_n (how : List UInt8) (n : Nat) : n ≤ (nextS how n).2 ∧ (nextS how n).2 ≤ n + 1 := by
  unfold nextS
  split
  · simp
  · simp
theorem blankS_n (how : List UInt8) (n : Nat) : (blankS how n).2 ≤ n + 1 ∧ (blankS how n).1.length ≤ 3 := by
  refine ⟨(nextS_n how n).2, ?_⟩
  have : ∀ j : Fin 8, (match j.val with | 1 => [32] | 2 => [9] | 3 => [10] | 4 => [13] | 5 => [32, 10, 32] | _ => ([] : List UInt8)).length ≤ 3 := by decide
  exact this ⟨(nextS how n).1 % 8, Nat.mod_lt _ (by decide)⟩
theorem itemS_len (r : Int) (k : Nat) : (itemS r k).length ≤ 12 := by
  have := (encP_len r).2
  unfold itemS
  repeat' split
  · omega
  · simp [digS, fourS]
  · simp [digS, fourS]
theorem textS_n (how : List UInt8) : ∀ (rs : List Int) (n : Nat), (textS how rs n).2 ≤ n + rs.length ∧ (textS how rs n).1.length ≤ 12 * rs.length
  | [], n => by simp [textS]
  | r :: rs, n => by
    have h1 := textS_n how rs (nextS how n).2
    have h2 := nextS_n how n
    have h3 := itemS_len r (nextS how n).1
    rw [textS, List.length_cons, List.length_append]
    constructor
    · show (textS how rs (nextS how n).2).2 ≤ _
      omega
    · omega
theorem runesGo_len : ∀ (f : Nat) (l : List UInt8), (runesGo f l).length ≤ f
  | 0, _ => by simp [runesGo]
  | f + 1, l => by
    rw [runesGo]
    split
    · simp
    · have := runesGo_len f (l.drop (nextP l).2.1.toNat)
      rw [List.length_cons]
      omega
theorem quoteS_n (how : List UInt8) (s : ByteArray) (n : Nat) : (quoteS how s n).2 ≤ n + s.size ∧ (quoteS how s n).1.length ≤ 12 * s.size + 2 := by
  have h1 := textS_n how (runesB s) n
  have h2 := runesGo_len s.size s.data.toList
  have h3 : (runesB s).length ≤ s.size := h2
  unfold quoteS
  simp only [List.length_cons, List.length_append, List.length_nil]
  constructor
  · omega
  · omega
theorem joinC_le : ∀ (l : List (List UInt8)), (joinC l).length ≤ (l.map fun x => x.length + 1).sum
  | [] => by simp [joinC]
  | [x] => by simp [joinC]
  | x :: y :: r => by
    have := joinC_le (y :: r)
    rw [List.map_cons, List.sum_cons, joinC, List.length_append, List.length_cons]
    omega
theorem seqS_n {α : Type} {one : α → Nat → List UInt8 × Nat} {c : α → Nat} : ∀ (l : List α) (n : Nat), (∀ x ∈ l, ∀ m, (one x m).2 ≤ m + c x ∧ (one x m).1.length + 1 ≤ 12 * c x) → (seqS one l n).2 ≤ n + (l.map c).sum ∧ ((seqS one l n).1.map fun x => x.length + 1).sum ≤ 12 * (l.map c).sum
  | [], n, _ => by simp [seqS]
  | x :: r, n, h => by
    have h1 := h x (by simp) n
    have h2 := seqS_n r (one x n).2 fun y hy => h y (by simp [hy])
    rw [seqS, List.map_cons, List.sum_cons, List.map_cons, List.sum_cons]
    constructor
    · show (seqS one r (one x n).2).2 ≤ _
      omega
    · show (one x n).1.length + 1 + _ ≤ _
      omega
theorem wtL_sum (l : List JV) : wtL l = (l.map wt).sum := by
  induction l with
  | nil => rw [wtL]; rfl
  | cons x r ih => rw [wtL, ih, List.map_cons, List.sum_cons]
def wtM (x : Mem) : Nat := 2 + x.1.size + wt x.2
theorem zip_sum_le : ∀ (names : List ByteArray) (items : List JV), ((names.zip items).map wtM).sum ≤ wtN names + wtL items
  | [], items => by simp
  | _ :: _, [] => by simp
  | s :: names, x :: items => by
    have := zip_sum_le names items
    rw [List.zip_cons_cons, List.map_cons, List.sum_cons, wtL]
    unfold wtN at this ⊢
    rw [List.map_cons, List.sum_cons]
    unfold wtM at this ⊢
    simp only [] at *
    omega
theorem memS_n (how : List UInt8) {val : JV → Nat → List UInt8 × Nat} (x : Mem) (h : ∀ m, (val x.2 m).2 ≤ m + wt x.2 ∧ (val x.2 m).1.length + 1 ≤ 12 * wt x.2) (n : Nat) : (memS how val x n).2 ≤ n + wtM x ∧ (memS how val x n).1.length + 1 ≤ 12 * wtM x := by
  have b1 := blankS_n how n
  have q := quoteS_n how x.1 (blankS how n).2
  have b2 := blankS_n how (quoteS how x.1 (blankS how n).2).2
  have v := h (blankS how (quoteS how x.1 (blankS how n).2).2).2
  unfold memS wtM
  simp only [List.length_append, List.length_cons]
  constructor
  · omega
  · omega
theorem valS_n (how : List UInt8) : ∀ (f : Nat) (V : JV) (n : Nat), inV V → (valS how f V n).2 ≤ n + wt V ∧ (valS how f V n).1.length + 1 ≤ 12 * wt V
  | 0, V, n, _ => by have := wt_eq V; rw [valS]; simp only [List.length_nil]; omega
  | f + 1, V, n, hin => by
    have b1 := blankS_n how n
    have hin2 : inVs V.items ∧ -9223372036854775808 ≤ V.n ∧ V.n ≤ 9223372036854775807 := by
      cases V
      rw [inV] at hin
      exact ⟨hin.2.2, hin.1, hin.2.1⟩
    have ih : ∀ x ∈ V.items, ∀ m, (valS how f x m).2 ≤ m + wt x ∧ (valS how f x m).1.length + 1 ≤ 12 * wt x := fun x hx m => valS_n how f x m (inVs_mem hin2.1 hx)
    have hw := wt_eq V
    have key : ∀ p, (bodyS how (valS how f) V p).2 + 2 ≤ p + wt V ∧ (bodyS how (valS how f) V p).1.length + 7 ≤ 12 * wt V := fun p => by
      unfold bodyS
      by_cases k1 : V.k = 1
      · rw [if_pos k1]
        refine ⟨by simp only []; omega, ?_⟩
        split <;> simp only [List.length_cons, List.length_nil] <;> omega
      rw [if_neg k1]
      by_cases k2 : V.k = 2
      · rw [if_pos k2]
        have := itoa_le hin2.2.1 hin2.2.2
        exact ⟨by simp only []; omega, by simp only []; omega⟩
      rw [if_neg k2]
      by_cases k3 : V.k = 3
      · rw [if_pos k3]
        have := quoteS_n how V.t p
        exact ⟨by omega, by omega⟩
      rw [if_neg k3]
      have b2 := blankS_n how p
      by_cases k4 : V.k = 4
      · rw [if_pos k4]
        have h1 := seqS_n (one := valS how f) (c := wt) V.items (blankS how p).2 ih
        have h2 := joinC_le (seqS (valS how f) V.items (blankS how p).2).1
        rw [← wtL_sum] at h1
        simp only [List.length_cons, List.length_append, List.length_nil]
        omega
      rw [if_neg k4]
      by_cases k5 : V.k = 5
      · rw [if_pos k5]
        have hr := rot_perm (nextS how (blankS how p).2).1 (V.names.zip V.items)
        have h1 := seqS_n (one := memS how (valS how f)) (c := wtM) (rot (nextS how (blankS how p).2).1 (V.names.zip V.items)) (nextS how (blankS how p).2).2 fun x hx => memS_n how x (ih x.2 (List.of_mem_zip (hr.mem_iff.1 hx)).2)
        have h2 := joinC_le (seqS (memS how (valS how f)) (rot (nextS how (blankS how p).2).1 (V.names.zip V.items)) (nextS how (blankS how p).2).2).1
        have h3 : ((rot (nextS how (blankS how p).2).1 (V.names.zip V.items)).map wtM).sum = ((V.names.zip V.items).map wtM).sum := (hr.map _).sum_nat
        have h4 := zip_sum_le V.names V.items
        have h5 := nextS_n how (blankS how p).2
        simp only [List.length_cons, List.length_append, List.length_nil]
        omega
      rw [if_neg k5]
      simp only [List.length_nil]
      omega
    have k := key (blankS how n).2
    have b3 := blankS_n how (bodyS how (valS how f) V (blankS how n).2).2
    rw [valS]
    simp only [List.length_append]
    constructor
    · omega
    · omega
end Go.Proofs.YtfdecbfcddkoiaaGreatDoor
