/-
  The value that a text of JSON says, plainly: over the row of its marks.
  Laws of reading: what is read is a piece at the front of the row of marks, and nothing behind it is looked at; the marks of two texts, one behind the other.
  Laws of reading, plainly: a mark behind a text; a front of a text.
  How many values have begun behind a value.
  Members in the order of their names: the one sorted row.
-/
import Derived.Test.YtfdecbfcddkoiaaGreatDoorLexP
import Derived.Test.YtfdecbfcddkoiaaGreatDoorValA
import Derived.Sort.Walk0
import Derived.Sort.Statements
import Derived.Lib.Bytealg
namespace Go.Proofs.YtfdecbfcddkoiaaGreatDoor
section
open Go.RowKit

/-- What stands next: a mark, or where there is none, and why. -/
inductive Lx where
  | tok (m : Mk)
  | err (p : Nat) (e : Int)
def lexGo : Nat → List UInt8 → Nat → List Lx
  | 0, _, _ => []
  | f + 1, l, p =>
    if (tokB l).e ≠ 0 then [.err (p + blanks l) (tokB l).e]
    else .tok ((tokB l).at (p + blanks l)) :: (if (tokB l).k = 11 then [] else lexGo f (l.drop (blanks l + (tokB l).len)) (p + blanks l + (tokB l).len))
/-- All that stands in a text from a place on. -/
def lexes (l : List UInt8) (p : Nat) : List Lx := lexGo (l.length + 1) l p
theorem lexGo_fuel : ∀ (f g : Nat) (l : List UInt8) (p : Nat), l.length < f → l.length < g → lexGo f l p = lexGo g l p
  | 0, _, _, _, h, _ => by omega
  | _ + 1, 0, _, _, _, h => by omega
  | f + 1, g + 1, l, p, hf, hg => by
    rw [lexGo, lexGo]
    by_cases h1 : (tokB l).e ≠ 0
    · rw [if_pos h1, if_pos h1]
    · rw [if_neg h1, if_neg h1]
      by_cases h2 : (tokB l).k = 11
      · rw [if_pos h2, if_pos h2]
      · rw [if_neg h2, if_neg h2]
        have h0 : (tokB l).e = 0 := by simpa using h1
        have hne : l.drop (blanks l) ≠ [] := fun h => h2 ((tok_end h0).2 h)
        obtain ⟨k1, k2, _⟩ := tokP_ok hne h0
        have k3 : 1 ≤ (tokB l).len := k1
        have k4 : (tokB l).len ≤ (l.drop (blanks l)).length := k2
        rw [List.length_drop] at k4
        have := blanks_le l
        rw [lexGo_fuel f g _ _ (by rw [List.length_drop]; omega) (by rw [List.length_drop]; omega)]
theorem lexes_step (l : List UInt8) (p : Nat) : lexes l p =
    if (tokB l).e ≠ 0 then [.err (p + blanks l) (tokB l).e]
    else .tok ((tokB l).at (p + blanks l)) :: (if (tokB l).k = 11 then [] else lexes (l.drop (blanks l + (tokB l).len)) (p + blanks l + (tokB l).len)) := by
  unfold lexes
  rw [lexGo]
  by_cases h1 : (tokB l).e ≠ 0
  · rw [if_pos h1, if_pos h1]
  · rw [if_neg h1, if_neg h1]
    by_cases h2 : (tokB l).k = 11
    · rw [if_pos h2, if_pos h2]
    · rw [if_neg h2, if_neg h2]
      have h0 : (tokB l).e = 0 := by simpa using h1
      have hne : l.drop (blanks l) ≠ [] := fun h => h2 ((tok_end h0).2 h)
      obtain ⟨k1, k2, _⟩ := tokP_ok hne h0
      have k3 : 1 ≤ (tokB l).len := k1
      have k4 : (tokB l).len ≤ (l.drop (blanks l)).length := k2
      rw [List.length_drop] at k4
      have := blanks_le l
      rw [lexGo_fuel l.length (((l.drop (blanks l + (tokB l).len)).length) + 1) _ _ (by rw [List.length_drop]; omega) (by omega)]
/-- At a place of a text: none. -/
theorem lexes_bad (s : List UInt8) (z : Nat) (m : Mk) (e : Int) (h : nextM s z = (m, e)) (he : e ≠ 0) : lexes (s.drop z) z = [.err (z + blanks (s.drop z)) e] := by
  unfold nextM at h
  rw [lexes_step]
  by_cases h1 : (tokB (s.drop z)).e ≠ 0
  · rw [if_pos h1] at h
    simp only [Prod.mk.injEq] at h
    rw [if_pos h1, h.2]
  · rw [if_neg h1] at h
    simp only [Prod.mk.injEq] at h
    exact absurd h.2.symm he
/-- At a place of a text: a mark. -/
theorem lexes_tok (s : List UInt8) (z : Nat) (m : Mk) (h : nextM s z = (m, 0)) : lexes (s.drop z) z = .tok m :: (if m.k = 11 then [] else lexes (s.drop m.z) m.z) := by
  unfold nextM at h
  rw [lexes_step]
  by_cases h1 : (tokB (s.drop z)).e ≠ 0
  · rw [if_pos h1] at h
    simp only [Prod.mk.injEq] at h
    exact absurd h.2 h1
  · rw [if_neg h1] at h
    simp only [Prod.mk.injEq] at h
    obtain ⟨h, -⟩ := h
    rw [if_neg h1, h]
    subst h
    simp only [Tok.at]
    rw [List.drop_drop, Nat.add_assoc]
    rfl
theorem nextM_ok {s : List UInt8} {z : Nat} {m : Mk} (hz : z ≤ s.length) (h : nextM s z = (m, 0)) : z ≤ m.a ∧ m.a = z + blanks (s.drop z) ∧ m.a ≤ m.z ∧ m.z ≤ s.length ∧ 1 ≤ m.k ∧ m.k ≤ 11 ∧ (m.k ≠ 11 → z < m.z) ∧ (m.k ≠ 9 → m.n = 0) ∧ (m.k ≠ 10 → m.t = []) := by
  unfold nextM at h
  by_cases h1 : (tokB (s.drop z)).e ≠ 0
  · rw [if_pos h1] at h
    simp only [Prod.mk.injEq] at h
    exact absurd h.2 h1
  · rw [if_neg h1] at h
    simp only [Prod.mk.injEq] at h
    obtain ⟨h, -⟩ := h
    have h0 : (tokB (s.drop z)).e = 0 := by simpa using h1
    have hbl := blanks_le (s.drop z)
    rw [List.length_drop] at hbl
    subst h
    simp only [Tok.at]
    by_cases hne : (s.drop z).drop (blanks (s.drop z)) = []
    · have ht : tokB (s.drop z) = ⟨11, 0, 0, [], 0⟩ := by unfold tokB; rw [hne]; rfl
      rw [ht]
      exact ⟨by omega, trivial, by simp only []; omega, by simp only []; omega, by simp, by simp, by simp, by simp, by simp⟩
    · obtain ⟨k1, k2, k3, k4, k5, k6⟩ := tokP_ok hne h0
      rw [List.length_drop, List.length_drop] at k2
      have j1 : 1 ≤ (tokB (s.drop z)).len := k1
      have j2 : (tokB (s.drop z)).len ≤ s.length - z - blanks (s.drop z) := k2
      have j4 : (tokB (s.drop z)).k ≤ 10 := k4
      exact ⟨by omega, trivial, by omega, by omega, k3, by omega, fun _ => by omega, k5, k6⟩

/-! The values. -/
/-- What reading gives: where and why not; or what, what is behind, how many values have begun. -/
inductive PR (α : Type) where
  | bad (p : Nat) (e : Int)
  | ok (v : α) (ms : List Lx) (c : Nat)
def PR.map {α β : Type} (f : α → β) : PR α → PR β
  | .bad p e => .bad p e
  | .ok v ms c => .ok (f v) ms c
/-- The error of a mark that may not stand there. -/
def wrongE (m : Mk) (e : Int) : Int := if m.k = 11 then 4 else e
/-- The mark that is next. -/
def nextL {α : Type} (f : Mk → List Lx → PR α) : List Lx → PR α
  | [] => .bad 0 0
  | .err p e :: _ => .bad p e
  | .tok m :: r => f m r
abbrev Mem := ByteArray × JV
def nmLt (a b : ByteArray) : Bool := Op.bytesLess a.toList b.toList
def insM (x : Mem) : List Mem → List Mem
  | [] => [x]
  | y :: r => if nmLt y.1 x.1 then y :: insM x r else x :: y :: r
def sortM (l : List Mem) : List Mem := l.foldl (fun acc x => insM x acc) []
def listV (items : List JV) : JV := .mk 4 0 ⟨#[]⟩ [] items
def objV (l : List Mem) : JV := .mk 5 0 ⟨#[]⟩ ((sortM l).map Prod.fst) ((sortM l).map Prod.snd)
/-- Is there a member of that name? -/
def hasN (acc : List Mem) (n : ByteArray) : Bool := acc.any fun x => x.1.data.toList == n.data.toList
def Mk.name (m : Mk) : ByteArray := ⟨m.t.toArray⟩
/-- Behind an item, or a member: the last mark, or a comma and the next mark. -/
def moreP {α : Type} (last : Int) (fin : List Lx → PR α) (go : Mk → List Lx → PR α) : List Lx → PR α :=
  nextL fun m r => if m.k = last then fin r else if m.k = 5 then nextL go r else .bad m.a (wrongE m 3)
/-- Items, from the first mark of one on. -/
def itemsP (val : Mk → List Lx → Nat → PR JV) : Nat → Mk → List Lx → Nat → List JV → PR JV
  | 0, _, _, _, _ => .bad 0 0
  | f + 1, m, ms, c, acc =>
    match val m ms c with
    | .bad p e => .bad p e
    | .ok v ms c => moreP 4 (fun r => .ok (listV (acc ++ [v])) r c) (fun m r => itemsP val f m r c (acc ++ [v])) ms
/-- Members, from the mark of a name on. -/
def membersP (val : Mk → List Lx → Nat → PR JV) : Nat → Mk → List Lx → Nat → List Mem → PR JV
  | 0, _, _, _, _ => .bad 0 0
  | f + 1, m, ms, c, acc =>
    if m.k ≠ 10 then .bad m.a (wrongE m 3)
    else if hasN acc m.name = true then .bad m.a 7
    else nextL (fun m2 ms => if m2.k ≠ 6 then .bad m2.a (wrongE m2 3) else nextL (fun m3 ms =>
      match val m3 ms c with
      | .bad p e => .bad p e
      | .ok v ms c => moreP 2 (fun r => .ok (objV (acc ++ [(m.name, v)])) r c) (fun m4 r => membersP val f m4 r c (acc ++ [(m.name, v)])) ms) ms) ms
/-- Does a value begin with a mark? -/
def begV (m : Mk) : Bool := m.k == 1 || m.k == 3 || m.k == 7 || m.k == 8 || m.k == 9 || m.k == 10
/-- What is no list and no object. -/
def leafV (m : Mk) : JV := if m.k = 7 then .mk 1 1 ⟨#[]⟩ [] [] else if m.k = 8 then .mk 1 0 ⟨#[]⟩ [] [] else if m.k = 9 then .mk 2 m.n ⟨#[]⟩ [] [] else .mk 3 0 m.name [] []
def listP (val : Mk → List Lx → Nat → PR JV) (ms : List Lx) (c : Nat) : PR JV := nextL (fun m r => if m.k = 4 then .ok (listV []) r c else itemsP val (r.length + 1) m r c []) ms
def objP (val : Mk → List Lx → Nat → PR JV) (ms : List Lx) (c : Nat) : PR JV := nextL (fun m r => if m.k = 2 then .ok (objV []) r c else membersP val (r.length + 1) m r c []) ms
/-- A value, from its first mark on, with so many lists and objects left. -/
def valP : Nat → Mk → List Lx → Nat → PR JV
  | d, m, ms, c =>
    if begV m = false then .bad m.a (wrongE m 3)
    else if 8192 ≤ c then .bad m.a 5
    else if m.k ≠ 1 ∧ m.k ≠ 3 then .ok (leafV m) ms (c + 1)
    else match d with
      | 0 => .bad m.a 8
      | d + 1 => if m.k = 3 then listP (valP d) ms (c + 1) else objP (valP d) ms (c + 1)
def endP (v : JV) (ms : List Lx) (c : Nat) : PR JV := nextL (fun m r => if m.k ≠ 11 then .bad m.a 11 else .ok v r c) ms
def topP (m : Mk) (ms : List Lx) : PR JV :=
  match valP 12 m ms 0 with
  | .bad p e => .bad p e
  | .ok v ms c => endP v ms c
/-- The whole text. -/
def readV (s : List UInt8) : PR JV := if 65536 < s.length then .bad 0 5 else nextL topP (lexes s 0)
end

section
open Go.RowKit

def Toks (ms : List Lx) : Prop := ∀ x ∈ ms, ∃ m, x = .tok m
theorem toks_cons {m : Mk} {ms : List Lx} (h : Toks ms) : Toks (.tok m :: ms) := fun x hx => by
  simp only [List.mem_cons] at hx
  rcases hx with rfl | hx
  · exact ⟨m, rfl⟩
  · exact h x hx
theorem toks_app {a b : List Lx} (h : Toks a) (k : Toks b) : Toks (a ++ b) := fun x hx => by
  simp only [List.mem_append] at hx
  rcases hx with hx | hx
  · exact h x hx
  · exact k x hx
theorem toks_nil : Toks [] := fun x hx => by simp at hx
theorem nextL_ok {α : Type} {f : Mk → List Lx → PR α} {ms ms' : List Lx} {v : α} {c : Nat} (h : nextL f ms = .ok v ms' c) : ∃ m r, ms = .tok m :: r ∧ f m r = .ok v ms' c := by
  match ms, h with
  | .tok m :: r, h => exact ⟨m, r, rfl, h⟩
  | .err p e :: r, h => simp [nextL] at h
  | [], h => simp [nextL] at h
/-- Reading a value takes a piece off the front. -/
def ValTakes (val : Mk → List Lx → Nat → PR JV) : Prop := ∀ m ms c v ms' c', val m ms c = .ok v ms' c' → ∃ pre, Toks pre ∧ ms = pre ++ ms' ∧ ∀ A, val m (pre ++ A) c = .ok v A c'
theorem items_takes {val : Mk → List Lx → Nat → PR JV} (hv : ValTakes val) : ∀ (f : Nat) (m : Mk) (ms : List Lx) (c : Nat) (acc : List JV) (v : JV) (ms' : List Lx) (c' : Nat), itemsP val f m ms c acc = .ok v ms' c' →
    ∃ pre, Toks pre ∧ ms = pre ++ ms' ∧ ∀ A g, pre.length < g → itemsP val g m (pre ++ A) c acc = .ok v A c'
  | 0, m, ms, c, acc, v, ms', c', h => by simp [itemsP] at h
  | f + 1, m, ms, c, acc, v, ms', c', h => by
    rw [itemsP] at h
    cases hval : val m ms c with
    | bad p e => rw [hval] at h; simp at h
    | ok u ms1 c1 =>
      rw [hval] at h
      obtain ⟨pre1, ht1, rfl, hp1⟩ := hv m ms c u ms1 c1 hval
      simp only [moreP] at h
      obtain ⟨m2, r2, ee, h'⟩ := nextL_ok h
      clear h
      have h := h'
      clear h'
      subst ee
      by_cases k4 : m2.k = 4
      · rw [if_pos k4] at h
        simp only [PR.ok.injEq] at h
        obtain ⟨rfl, rfl, rfl⟩ := h
        refine ⟨pre1 ++ [.tok m2], toks_app ht1 (toks_cons toks_nil), by simp, fun A g hg => ?_⟩
        match g, hg with
        | g + 1, _ =>
          rw [itemsP, List.append_assoc, hp1]
          show (if m2.k = 4 then _ else _) = _
          exact if_pos k4
      · rw [if_neg k4] at h
        by_cases k5 : m2.k = 5
        · rw [if_pos k5] at h
          obtain ⟨m3, r3, ee, h'⟩ := nextL_ok h
          clear h
          have h := h'
          clear h'
          subst ee
          obtain ⟨pre2, ht2, rfl, hp2⟩ := items_takes hv f m3 r3 c1 _ v ms' c' h
          refine ⟨pre1 ++ .tok m2 :: .tok m3 :: pre2, toks_app ht1 (toks_cons (toks_cons ht2)), by simp, fun A g hg => ?_⟩
          match g, hg with
          | g + 1, hg =>
            have e : pre1 ++ .tok m2 :: .tok m3 :: pre2 ++ A = pre1 ++ (.tok m2 :: .tok m3 :: (pre2 ++ A)) := by simp
            rw [itemsP, e, hp1]
            show (if m2.k = 4 then _ else if m2.k = 5 then _ else _) = _
            rw [if_neg k4, if_pos k5]
            exact hp2 A g (by simp at hg; omega)
        · rw [if_neg k5] at h
          simp at h
theorem members_takes {val : Mk → List Lx → Nat → PR JV} (hv : ValTakes val) : ∀ (f : Nat) (m : Mk) (ms : List Lx) (c : Nat) (acc : List Mem) (v : JV) (ms' : List Lx) (c' : Nat), membersP val f m ms c acc = .ok v ms' c' →
    ∃ pre, Toks pre ∧ ms = pre ++ ms' ∧ ∀ A g, pre.length < g → membersP val g m (pre ++ A) c acc = .ok v A c'
  | 0, m, ms, c, acc, v, ms', c', h => by simp [membersP] at h
  | f + 1, m, ms, c, acc, v, ms', c', h => by
    rw [membersP] at h
    by_cases h10 : m.k ≠ 10
    · rw [if_pos h10] at h; simp at h
    rw [if_neg h10] at h
    by_cases hn : hasN acc m.name = true
    · rw [if_pos hn] at h; simp at h
    rw [if_neg hn] at h
    obtain ⟨m2, r2, ee, h'⟩ := nextL_ok h
    clear h
    have h := h'
    clear h'
    subst ee
    by_cases h6 : m2.k ≠ 6
    · rw [if_pos h6] at h; simp at h
    rw [if_neg h6] at h
    obtain ⟨m3, r3, ee, h'⟩ := nextL_ok h
    clear h
    have h := h'
    clear h'
    subst ee
    cases hval : val m3 r3 c with
    | bad p e => rw [hval] at h; simp at h
    | ok u ms1 c1 =>
      rw [hval] at h
      obtain ⟨pre1, ht1, rfl, hp1⟩ := hv m3 r3 c u ms1 c1 hval
      simp only [moreP] at h
      obtain ⟨m4, r4, ee, h'⟩ := nextL_ok h
      clear h
      have h := h'
      clear h'
      subst ee
      by_cases k2 : m4.k = 2
      · rw [if_pos k2] at h
        simp only [PR.ok.injEq] at h
        obtain ⟨rfl, rfl, rfl⟩ := h
        refine ⟨.tok m2 :: .tok m3 :: (pre1 ++ [.tok m4]), toks_cons (toks_cons (toks_app ht1 (toks_cons toks_nil))), by simp, fun A g hg => ?_⟩
        match g, hg with
        | g + 1, _ =>
          rw [membersP, if_neg h10, if_neg hn]
          show (if m2.k ≠ 6 then _ else match val m3 (pre1 ++ [.tok m4] ++ A) c with | .bad p e => _ | .ok v ms c => _) = _
          rw [if_neg h6, List.append_assoc, hp1]
          show (if m4.k = 2 then _ else _) = _
          exact if_pos k2
      · rw [if_neg k2] at h
        by_cases k5 : m4.k = 5
        · rw [if_pos k5] at h
          obtain ⟨m5, r5, ee, h'⟩ := nextL_ok h
          clear h
          have h := h'
          clear h'
          subst ee
          obtain ⟨pre2, ht2, rfl, hp2⟩ := members_takes hv f m5 r5 c1 _ v ms' c' h
          refine ⟨.tok m2 :: .tok m3 :: (pre1 ++ .tok m4 :: .tok m5 :: pre2), toks_cons (toks_cons (toks_app ht1 (toks_cons (toks_cons ht2)))), by simp, fun A g hg => ?_⟩
          match g, hg with
          | g + 1, hg =>
            have e : pre1 ++ .tok m4 :: .tok m5 :: pre2 ++ A = pre1 ++ (.tok m4 :: .tok m5 :: (pre2 ++ A)) := by simp
            rw [membersP, if_neg h10, if_neg hn]
            show (if m2.k ≠ 6 then _ else match val m3 (pre1 ++ .tok m4 :: .tok m5 :: pre2 ++ A) c with | .bad p e => _ | .ok v ms c => _) = _
            rw [if_neg h6, e, hp1]
            show (if m4.k = 2 then _ else if m4.k = 5 then _ else _) = _
            rw [if_neg k2, if_pos k5]
            exact hp2 A g (by simp at hg; omega)
        · rw [if_neg k5] at h
          simp at h
theorem list_takes {val : Mk → List Lx → Nat → PR JV} (hv : ValTakes val) (ms : List Lx) (c : Nat) (v : JV) (ms' : List Lx) (c' : Nat) (h : listP val ms c = .ok v ms' c') : ∃ pre, Toks pre ∧ ms = pre ++ ms' ∧ ∀ A, listP val (pre ++ A) c = .ok v A c' := by
  unfold listP at h
  obtain ⟨m, r, ee, h'⟩ := nextL_ok h
  clear h
  have h := h'
  clear h'
  subst ee
  by_cases k4 : m.k = 4
  · rw [if_pos k4] at h
    simp only [PR.ok.injEq] at h
    obtain ⟨rfl, rfl, rfl⟩ := h
    refine ⟨[.tok m], toks_cons toks_nil, by simp, fun A => ?_⟩
    show (if m.k = 4 then _ else _) = _
    exact if_pos k4
  · rw [if_neg k4] at h
    obtain ⟨pre, ht, rfl, hp⟩ := items_takes hv _ m r c _ v ms' c' h
    refine ⟨.tok m :: pre, toks_cons ht, by simp, fun A => ?_⟩
    show (if m.k = 4 then _ else _) = _
    rw [if_neg k4]
    exact hp A _ (by simp; omega)
theorem obj_takes {val : Mk → List Lx → Nat → PR JV} (hv : ValTakes val) (ms : List Lx) (c : Nat) (v : JV) (ms' : List Lx) (c' : Nat) (h : objP val ms c = .ok v ms' c') : ∃ pre, Toks pre ∧ ms = pre ++ ms' ∧ ∀ A, objP val (pre ++ A) c = .ok v A c' := by
  unfold objP at h
  obtain ⟨m, r, ee, h'⟩ := nextL_ok h
  clear h
  have h := h'
  clear h'
  subst ee
  by_cases k4 : m.k = 2
  · rw [if_pos k4] at h
    simp only [PR.ok.injEq] at h
    obtain ⟨rfl, rfl, rfl⟩ := h
    refine ⟨[.tok m], toks_cons toks_nil, by simp, fun A => ?_⟩
    show (if m.k = 2 then _ else _) = _
    exact if_pos k4
  · rw [if_neg k4] at h
    obtain ⟨pre, ht, rfl, hp⟩ := members_takes hv _ m r c _ v ms' c' h
    refine ⟨.tok m :: pre, toks_cons ht, by simp, fun A => ?_⟩
    show (if m.k = 2 then _ else _) = _
    rw [if_neg k4]
    exact hp A _ (by simp; omega)
theorem val_takes : ∀ d, ValTakes (valP d)
  | 0 => fun m ms c v ms' c' h => by
    rw [valP] at h
    by_cases h1 : begV m = false
    · rw [if_pos h1] at h; simp at h
    by_cases h2 : 8192 ≤ c
    · rw [if_neg h1, if_pos h2] at h; simp at h
    by_cases h3 : m.k ≠ 1 ∧ m.k ≠ 3
    · rw [if_neg h1, if_neg h2, if_pos h3] at h
      simp only [PR.ok.injEq] at h
      obtain ⟨rfl, rfl, rfl⟩ := h
      refine ⟨[], toks_nil, rfl, fun A => ?_⟩
      rw [valP, if_neg h1, if_neg h2, if_pos h3]; rfl
    · rw [if_neg h1, if_neg h2, if_neg h3] at h; simp at h
  | d + 1 => fun m ms c v ms' c' h => by
    rw [valP] at h
    by_cases h1 : begV m = false
    · rw [if_pos h1] at h; simp at h
    by_cases h2 : 8192 ≤ c
    · rw [if_neg h1, if_pos h2] at h; simp at h
    by_cases h3 : m.k ≠ 1 ∧ m.k ≠ 3
    · rw [if_neg h1, if_neg h2, if_pos h3] at h
      simp only [PR.ok.injEq] at h
      obtain ⟨rfl, rfl, rfl⟩ := h
      refine ⟨[], toks_nil, rfl, fun A => ?_⟩
      rw [valP, if_neg h1, if_neg h2, if_pos h3]; rfl
    · rw [if_neg h1, if_neg h2, if_neg h3] at h
      by_cases h4 : m.k = 3
      · rw [if_pos h4] at h
        obtain ⟨pre, ht, rfl, hp⟩ := list_takes (val_takes d) ms _ v ms' c' h
        refine ⟨pre, ht, rfl, fun A => ?_⟩
        rw [valP, if_neg h1, if_neg h2, if_neg h3, if_pos h4]
        exact hp A
      · rw [if_neg h4] at h
        obtain ⟨pre, ht, rfl, hp⟩ := obj_takes (val_takes d) ms _ v ms' c' h
        refine ⟨pre, ht, rfl, fun A => ?_⟩
        rw [valP, if_neg h1, if_neg h2, if_neg h3, if_neg h4]
        exact hp A

/-! The marks of a text, and of what stands behind it. -/
theorem lexes_blank (b : List UInt8) (hb : ∀ c ∈ b, isBlank c = true) (l : List UInt8) (p : Nat) : lexes (b ++ l) p = lexes l (p + b.length) := by
  rw [lexes_step (b ++ l), lexes_step l]
  have e1 : blanks (b ++ l) = b.length + blanks l := blanks_all b hb l
  have e2 : tokB (b ++ l) = tokB l := by
    unfold tokB
    rw [e1, ← List.drop_drop, List.drop_left]
  rw [e1, e2]
  have e3 : (b ++ l).drop (b.length + blanks l + (tokB l).len) = l.drop (blanks l + (tokB l).len) := by
    rw [Nat.add_assoc, ← List.drop_drop, List.drop_left]
  rw [e3, Nat.add_assoc p b.length]
theorem lexes_app (b : List UInt8) (hb : Ahead b) : ∀ (pre : List Lx) (l : List UInt8) (p : Nat) (m : Mk) (r : List Lx), Toks pre → lexes l p = pre ++ .tok m :: r → m.k = 11 →
    r = [] ∧ m = ⟨11, p + l.length, p + l.length, 0, []⟩ ∧ lexes (l ++ b) p = pre ++ lexes b (p + l.length)
  | [], l, p, m, r, _, h, hm => by
    rw [lexes_step] at h
    by_cases h1 : (tokB l).e ≠ 0
    · rw [if_pos h1] at h
      simp at h
    rw [if_neg h1] at h
    simp only [List.nil_append, List.cons.injEq, Lx.tok.injEq] at h
    obtain ⟨rfl, h⟩ := h
    have h2 : (tokB l).k = 11 := hm
    rw [if_pos h2] at h
    have h0 : (tokB l).e = 0 := by simpa using h1
    have e := (tok_end h0).1 h2
    have e2 : blanks l = l.length := by
      have := congrArg List.length e
      rw [List.length_drop, List.length_nil] at this
      have := blanks_le l
      omega
    refine ⟨h.symm, ?_, ?_⟩
    · unfold tokB Tok.at
      rw [e, tokP_nil, e2]; rfl
    · refine lexes_blank l (fun c hc => ?_) b p
      have := blanks_take l
      rw [e2, List.take_length] at this
      exact this c hc
  | x :: pre, l, p, m, r, ht, h, hm => by
    rw [lexes_step] at h
    by_cases h1 : (tokB l).e ≠ 0
    · rw [if_pos h1] at h
      simp at h
    rw [if_neg h1] at h
    simp only [List.cons_append, List.cons.injEq] at h
    obtain ⟨rfl, h⟩ := h
    have h0 : (tokB l).e = 0 := by simpa using h1
    by_cases h2 : (tokB l).k = 11
    · rw [if_pos h2] at h
      simp at h
    rw [if_neg h2] at h
    have hne : l.drop (blanks l) ≠ [] := fun e => h2 ((tok_end h0).2 e)
    obtain ⟨k1, k2, _⟩ := tokP_ok hne h0
    have j2 : (tokB l).len ≤ l.length - blanks l := by rw [List.length_drop] at k2; exact k2
    have j1 : 1 ≤ (tokB l).len := k1
    have hbl := blanks_le l
    obtain ⟨a1, a2, a3⟩ := lexes_app b hb pre _ _ m r (fun y hy => ht y (by simp [hy])) h hm
    rw [List.length_drop] at a2 a3
    have ee : p + blanks l + (tokB l).len + (l.length - (blanks l + (tokB l).len)) = p + l.length := by omega
    rw [ee] at a2 a3
    refine ⟨a1, a2, ?_⟩
    have e1 : blanks (l ++ b) = blanks l := by
      match hd : l.drop (blanks l), hne with
      | c :: r', _ =>
        have hc := blanks_head l c r' hd
        have hs : l = l.take (blanks l) ++ (c :: r') := by rw [← hd]; exact blanks_split l
        have hz : blanks (c :: r' ++ b) = 0 := blanks_zero (r' ++ b) hc
        have := blanks_all (l.take (blanks l)) (blanks_take l) (c :: r' ++ b)
        rw [← List.append_assoc, ← hs, hz, List.length_take] at this
        omega
    have e2 : tokB (l ++ b) = tokB l := by
      unfold tokB
      rw [e1, List.drop_append_of_le_length hbl]
      refine tokP_more _ b hne hb ?_
      show (tokB l).e ≠ 4
      omega
    rw [lexes_step, e2, if_neg h1, if_neg h2, e1, List.drop_append_of_le_length (by omega), a3]
    rfl
end

section
open Go.RowKit

/-- A text that is read: its marks, and how it is read off them. -/
theorem readV_ok {s : List UInt8} {v : JV} {ms : List Lx} {c : Nat} (h : readV s = .ok v ms c) :
    s.length ≤ 65536 ∧ ∃ m0 pre, lexes s 0 = .tok m0 :: (pre ++ [.tok ⟨11, s.length, s.length, 0, []⟩]) ∧ Toks pre ∧ (∀ A, valP 12 m0 (pre ++ A) 0 = .ok v A c) := by
  unfold readV at h
  by_cases hl : 65536 < s.length
  · rw [if_pos hl] at h; simp at h
  rw [if_neg hl] at h
  obtain ⟨m0, r0, hlex, h⟩ := nextL_ok h
  unfold topP at h
  cases hval : valP 12 m0 r0 0 with
  | bad p e => rw [hval] at h; simp at h
  | ok u ms1 c1 =>
    rw [hval] at h
    simp only [endP] at h
    obtain ⟨me, r1, ee, h'⟩ := nextL_ok h
    clear h
    have h := h'
    clear h'
    subst ee
    by_cases h11 : me.k ≠ 11
    · rw [if_pos h11] at h; simp at h
    rw [if_neg h11] at h
    simp only [PR.ok.injEq] at h
    obtain ⟨rfl, rfl, rfl⟩ := h
    obtain ⟨pre, ht, rfl, hp⟩ := val_takes 12 _ _ _ _ _ _ hval
    have hme : me.k = 11 := by simpa using h11
    have hlex' : lexes s 0 = (.tok m0 :: pre) ++ .tok me :: r1 := by rw [hlex]; rfl
    obtain ⟨rfl, rfl, -⟩ := lexes_app [] ahead_nil (.tok m0 :: pre) s 0 me r1 (toks_cons ht) hlex' hme
    refine ⟨by omega, m0, pre, ?_, ht, hp⟩
    rw [hlex', Nat.zero_add]
    rfl
/-- A text, a blank, and a mark. -/
theorem more_plain {s t : List UInt8} {v : JV} {ms : List Lx} {c : Nat} {m : Mk} (h : readV s = .ok v ms c) (hm : nextM t 0 = (m, 0)) (hk : m.k ≠ 11) (hlen : s.length + 1 + t.length ≤ 65536) :
    readV (s ++ 32 :: t) = .bad (s.length + 1 + m.a) 11 := by
  obtain ⟨-, m0, pre, hlex, ht, hp⟩ := readV_ok h
  have hlex' : lexes s 0 = (.tok m0 :: pre) ++ .tok ⟨11, s.length, s.length, 0, []⟩ :: [] := by rw [hlex]; rfl
  obtain ⟨-, -, e⟩ := lexes_app (32 :: t) (ahead_cons t rfl) (.tok m0 :: pre) s 0 _ [] (toks_cons ht) hlex' rfl
  have e2 : lexes (32 :: t) (0 + s.length) = lexes t (0 + s.length + 1) := lexes_blank [32] (by simp; rfl) t _
  unfold nextM at hm
  rw [List.drop_zero] at hm
  by_cases h1 : (tokB t).e ≠ 0
  · rw [if_pos h1] at hm
    simp only [Prod.mk.injEq] at hm
    exact absurd hm.2 h1
  rw [if_neg h1] at hm
  simp only [Prod.mk.injEq] at hm
  obtain ⟨rfl, -⟩ := hm
  rw [e2, lexes_step t, if_neg h1] at e
  unfold readV
  rw [if_neg (by simp; omega), e]
  show topP m0 (pre ++ _) = _
  unfold topP
  rw [hp]
  show (if _ then _ else _) = _
  rw [if_pos (by exact hk)]
  simp only [Tok.at, PR.bad.injEq, and_true]
  omega

/-! How a list ends, and an object. -/
theorem items_last {val : Mk → List Lx → Nat → PR JV} : ∀ (f : Nat) (m : Mk) (ms : List Lx) (c : Nat) (acc : List JV) (v : JV) (ms' : List Lx) (c' : Nat), (∀ m ms c v ms' c', val m ms c = .ok v ms' c' → ∃ pre, ms = pre ++ ms') →
    itemsP val f m ms c acc = .ok v ms' c' → ∃ pre ml, ms = pre ++ .tok ml :: ms' ∧ ml.k = 4
  | 0, m, ms, c, acc, v, ms', c', _, h => by simp [itemsP] at h
  | f + 1, m, ms, c, acc, v, ms', c', hv, h => by
    rw [itemsP] at h
    cases hval : val m ms c with
    | bad p e => rw [hval] at h; simp at h
    | ok u ms1 c1 =>
      rw [hval] at h
      obtain ⟨pre1, rfl⟩ := hv m ms c u ms1 c1 hval
      simp only [moreP] at h
      obtain ⟨m2, r2, ee, h'⟩ := nextL_ok h
      clear h
      have h := h'
      clear h'
      subst ee
      by_cases k4 : m2.k = 4
      · rw [if_pos k4] at h
        simp only [PR.ok.injEq] at h
        obtain ⟨rfl, rfl, rfl⟩ := h
        exact ⟨pre1, m2, rfl, k4⟩
      · rw [if_neg k4] at h
        by_cases k5 : m2.k = 5
        · rw [if_pos k5] at h
          obtain ⟨m3, r3, ee, h'⟩ := nextL_ok h
          clear h
          have h := h'
          clear h'
          subst ee
          obtain ⟨pre2, ml, rfl, hk⟩ := items_last f m3 r3 c1 _ v ms' c' hv h
          exact ⟨pre1 ++ .tok m2 :: .tok m3 :: pre2, ml, by simp, hk⟩
        · rw [if_neg k5] at h
          simp at h
theorem members_last {val : Mk → List Lx → Nat → PR JV} : ∀ (f : Nat) (m : Mk) (ms : List Lx) (c : Nat) (acc : List Mem) (v : JV) (ms' : List Lx) (c' : Nat), (∀ m ms c v ms' c', val m ms c = .ok v ms' c' → ∃ pre, ms = pre ++ ms') →
    membersP val f m ms c acc = .ok v ms' c' → ∃ pre ml, ms = pre ++ .tok ml :: ms' ∧ ml.k = 2
  | 0, m, ms, c, acc, v, ms', c', _, h => by simp [membersP] at h
  | f + 1, m, ms, c, acc, v, ms', c', hv, h => by
    rw [membersP] at h
    by_cases h10 : m.k ≠ 10
    · rw [if_pos h10] at h; simp at h
    rw [if_neg h10] at h
    by_cases hn : hasN acc m.name = true
    · rw [if_pos hn] at h; simp at h
    rw [if_neg hn] at h
    obtain ⟨m2, r2, ee, h'⟩ := nextL_ok h
    clear h
    have h := h'
    clear h'
    subst ee
    by_cases h6 : m2.k ≠ 6
    · rw [if_pos h6] at h; simp at h
    rw [if_neg h6] at h
    obtain ⟨m3, r3, ee, h'⟩ := nextL_ok h
    clear h
    have h := h'
    clear h'
    subst ee
    cases hval : val m3 r3 c with
    | bad p e => rw [hval] at h; simp at h
    | ok u ms1 c1 =>
      rw [hval] at h
      obtain ⟨pre1, rfl⟩ := hv m3 r3 c u ms1 c1 hval
      simp only [moreP] at h
      obtain ⟨m4, r4, ee, h'⟩ := nextL_ok h
      clear h
      have h := h'
      clear h'
      subst ee
      by_cases k2 : m4.k = 2
      · rw [if_pos k2] at h
        simp only [PR.ok.injEq] at h
        obtain ⟨rfl, rfl, rfl⟩ := h
        exact ⟨.tok m2 :: .tok m3 :: pre1, m4, by simp, k2⟩
      · rw [if_neg k2] at h
        by_cases k5 : m4.k = 5
        · rw [if_pos k5] at h
          obtain ⟨m5, r5, ee, h'⟩ := nextL_ok h
          clear h
          have h := h'
          clear h'
          subst ee
          obtain ⟨pre2, ml, rfl, hk⟩ := members_last f m5 r5 c1 _ v ms' c' hv h
          exact ⟨.tok m2 :: .tok m3 :: (pre1 ++ .tok m4 :: .tok m5 :: pre2), ml, by simp, hk⟩
        · rw [if_neg k5] at h
          simp at h
theorem leafV_k (m : Mk) : (leafV m).k ≠ 4 ∧ (leafV m).k ≠ 5 := by
  unfold leafV
  repeat' split
  all_goals simp [JV.k]
/-- The value that begins with a mark of a list or of an object ends by a mark; another one is no list and no object. -/
theorem val_last : ∀ (d : Nat) (m : Mk) (ms : List Lx) (c : Nat) (v : JV) (ms' : List Lx) (c' : Nat), valP d m ms c = .ok v ms' c' →
    ((m.k = 1 ∨ m.k = 3) ∧ ∃ pre ml, ms = pre ++ .tok ml :: ms' ∧ (ml.k = 4 ∨ ml.k = 2)) ∨ (m.k ≠ 1 ∧ m.k ≠ 3 ∧ v.k ≠ 4 ∧ v.k ≠ 5) := by
  intro d m ms c v ms' c' h
  revert h
  match d with
  | 0 =>
    intro h
    rw [valP] at h
    by_cases h1 : begV m = false
    · rw [if_pos h1] at h; simp at h
    by_cases h2 : 8192 ≤ c
    · rw [if_neg h1, if_pos h2] at h; simp at h
    by_cases h3 : m.k ≠ 1 ∧ m.k ≠ 3
    · rw [if_neg h1, if_neg h2, if_pos h3] at h
      simp only [PR.ok.injEq] at h
      obtain ⟨rfl, rfl, rfl⟩ := h
      exact Or.inr ⟨h3.1, h3.2, leafV_k m⟩
    · rw [if_neg h1, if_neg h2, if_neg h3] at h; simp at h
  | d + 1 =>
    intro h
    rw [valP] at h
    by_cases h1 : begV m = false
    · rw [if_pos h1] at h; simp at h
    by_cases h2 : 8192 ≤ c
    · rw [if_neg h1, if_pos h2] at h; simp at h
    by_cases h3 : m.k ≠ 1 ∧ m.k ≠ 3
    · rw [if_neg h1, if_neg h2, if_pos h3] at h
      simp only [PR.ok.injEq] at h
      obtain ⟨rfl, rfl, rfl⟩ := h
      exact Or.inr ⟨h3.1, h3.2, leafV_k m⟩
    · rw [if_neg h1, if_neg h2, if_neg h3] at h
      have hv : ∀ m ms c v ms' c', valP d m ms c = .ok v ms' c' → ∃ pre, ms = pre ++ ms' := fun m ms c v ms' c' h => by
        obtain ⟨pre, -, e, -⟩ := val_takes d m ms c v ms' c' h
        exact ⟨pre, e⟩
      refine Or.inl ⟨by omega, ?_⟩
      by_cases h4 : m.k = 3
      · rw [if_pos h4] at h
        unfold listP at h
        obtain ⟨m2, r, ee, h'⟩ := nextL_ok h
        clear h
        have h := h'
        clear h'
        subst ee
        by_cases k4 : m2.k = 4
        · rw [if_pos k4] at h
          simp only [PR.ok.injEq] at h
          obtain ⟨rfl, rfl, rfl⟩ := h
          exact ⟨[], m2, rfl, Or.inl k4⟩
        · rw [if_neg k4] at h
          obtain ⟨pre, ml, rfl, hk⟩ := items_last _ _ _ _ _ _ _ _ hv h
          exact ⟨.tok m2 :: pre, ml, rfl, Or.inl hk⟩
      · rw [if_neg h4] at h
        unfold objP at h
        obtain ⟨m2, r, ee, h'⟩ := nextL_ok h
        clear h
        have h := h'
        clear h'
        subst ee
        by_cases k4 : m2.k = 2
        · rw [if_pos k4] at h
          simp only [PR.ok.injEq] at h
          obtain ⟨rfl, rfl, rfl⟩ := h
          exact ⟨[], m2, rfl, Or.inr k4⟩
        · rw [if_neg k4] at h
          obtain ⟨pre, ml, rfl, hk⟩ := members_last _ _ _ _ _ _ _ _ hv h
          exact ⟨.tok m2 :: pre, ml, rfl, Or.inr hk⟩

/-! Where a text is refused: at a place of it, or at its end. -/
def LxIn (B : Nat) (ms : List Lx) : Prop := ∀ x ∈ ms, match x with | .tok m => m.a ≤ B | .err p _ => p ≤ B
theorem LxIn.tail {B : Nat} {x : Lx} {ms : List Lx} (h : LxIn B (x :: ms)) : LxIn B ms := fun y hy => h y (by simp [hy])
theorem LxIn.drop {B : Nat} {a ms : List Lx} (h : LxIn B (a ++ ms)) : LxIn B ms := fun y hy => h y (by simp [hy])
theorem lexes_in : ∀ (n : Nat) (l : List UInt8) (p : Nat), l.length ≤ n → LxIn (p + l.length) (lexes l p)
  | n, l, p, hn => by
    have hbl := blanks_le l
    rw [lexes_step]
    by_cases h1 : (tokB l).e ≠ 0
    · rw [if_pos h1]
      intro x hx
      simp only [List.mem_singleton] at hx
      subst hx
      show p + blanks l ≤ _
      omega
    rw [if_neg h1]
    intro x hx
    rw [List.mem_cons] at hx
    rcases hx with rfl | hx
    · show p + blanks l ≤ _
      omega
    · by_cases h2 : (tokB l).k = 11
      · rw [if_pos h2] at hx; simp at hx
      · rw [if_neg h2] at hx
        have h0 : (tokB l).e = 0 := by simpa using h1
        have hne : l.drop (blanks l) ≠ [] := fun e => h2 ((tok_end h0).2 e)
        obtain ⟨k1, k2, _⟩ := tokP_ok hne h0
        have j2 : (tokB l).len ≤ l.length - blanks l := by rw [List.length_drop] at k2; exact k2
        have j1 : 1 ≤ (tokB l).len := k1
        match n, hn with
        | 0, hn => omega
        | n + 1, hn =>
          have := lexes_in n (l.drop (blanks l + (tokB l).len)) (p + blanks l + (tokB l).len) (by rw [List.length_drop]; omega) x hx
          rw [List.length_drop] at this
          have ee : p + blanks l + (tokB l).len + (l.length - (blanks l + (tokB l).len)) = p + l.length := by omega
          rw [ee] at this
          exact this
theorem nextL_in {α : Type} {B : Nat} {f : Mk → List Lx → PR α} {ms : List Lx} {p : Nat} {e : Int} (hin : LxIn B ms) (hf : ∀ m r, m.a ≤ B → LxIn B r → ∀ p e, f m r = .bad p e → p ≤ B) (h : nextL f ms = .bad p e) : p ≤ B := by
  match ms, h with
  | .tok m :: r, h => exact hf m r (hin (.tok m) (by simp)) hin.tail p e h
  | .err q e' :: r, h =>
    simp only [nextL, PR.bad.injEq] at h
    have : q ≤ B := hin (.err q e') (by simp)
    omega
  | [], h => simp only [nextL, PR.bad.injEq] at h; omega
def ValIn (B : Nat) (val : Mk → List Lx → Nat → PR JV) : Prop := ∀ m ms c p e, m.a ≤ B → LxIn B ms → val m ms c = .bad p e → p ≤ B
theorem items_in {B : Nat} {val : Mk → List Lx → Nat → PR JV} (hv : ValIn B val) (ht : ValTakes val) : ∀ (f : Nat) (m : Mk) (ms : List Lx) (c : Nat) (acc : List JV) (p : Nat) (e : Int), m.a ≤ B → LxIn B ms → itemsP val f m ms c acc = .bad p e → p ≤ B
  | 0, m, ms, c, acc, p, e, _, _, h => by simp only [itemsP, PR.bad.injEq] at h; omega
  | f + 1, m, ms, c, acc, p, e, hm, hin, h => by
    rw [itemsP] at h
    cases hval : val m ms c with
    | bad q e' =>
      rw [hval] at h
      simp only [PR.bad.injEq] at h
      have := hv m ms c q e' hm hin hval
      omega
    | ok u ms1 c1 =>
      rw [hval] at h
      obtain ⟨pre1, -, rfl, -⟩ := ht m ms c u ms1 c1 hval
      simp only [moreP] at h
      refine nextL_in hin.drop (fun m2 r2 hm2 hr2 p e h => ?_) h
      by_cases k4 : m2.k = 4
      · rw [if_pos k4] at h; simp at h
      rw [if_neg k4] at h
      by_cases k5 : m2.k = 5
      · rw [if_pos k5] at h
        exact nextL_in hr2 (fun m3 r3 hm3 hr3 p e h => items_in hv ht f m3 r3 c1 _ p e hm3 hr3 h) h
      · rw [if_neg k5] at h
        simp only [PR.bad.injEq] at h
        omega
theorem members_in {B : Nat} {val : Mk → List Lx → Nat → PR JV} (hv : ValIn B val) (ht : ValTakes val) : ∀ (f : Nat) (m : Mk) (ms : List Lx) (c : Nat) (acc : List Mem) (p : Nat) (e : Int), m.a ≤ B → LxIn B ms → membersP val f m ms c acc = .bad p e → p ≤ B
  | 0, m, ms, c, acc, p, e, _, _, h => by simp only [membersP, PR.bad.injEq] at h; omega
  | f + 1, m, ms, c, acc, p, e, hm, hin, h => by
    rw [membersP] at h
    by_cases h10 : m.k ≠ 10
    · rw [if_pos h10] at h; simp only [PR.bad.injEq] at h; omega
    rw [if_neg h10] at h
    by_cases hn : hasN acc m.name = true
    · rw [if_pos hn] at h; simp only [PR.bad.injEq] at h; omega
    rw [if_neg hn] at h
    refine nextL_in hin (fun m2 r2 hm2 hr2 p e h => ?_) h
    by_cases h6 : m2.k ≠ 6
    · rw [if_pos h6] at h; simp only [PR.bad.injEq] at h; omega
    rw [if_neg h6] at h
    refine nextL_in hr2 (fun m3 r3 hm3 hr3 p e h => ?_) h
    cases hval : val m3 r3 c with
    | bad q e' =>
      rw [hval] at h
      simp only [PR.bad.injEq] at h
      have := hv m3 r3 c q e' hm3 hr3 hval
      omega
    | ok u ms1 c1 =>
      rw [hval] at h
      obtain ⟨pre1, -, rfl, -⟩ := ht m3 r3 c u ms1 c1 hval
      simp only [moreP] at h
      refine nextL_in hr3.drop (fun m4 r4 hm4 hr4 p e h => ?_) h
      by_cases k2 : m4.k = 2
      · rw [if_pos k2] at h; simp at h
      rw [if_neg k2] at h
      by_cases k5 : m4.k = 5
      · rw [if_pos k5] at h
        exact nextL_in hr4 (fun m5 r5 hm5 hr5 p e h => members_in hv ht f m5 r5 c1 _ p e hm5 hr5 h) h
      · rw [if_neg k5] at h
        simp only [PR.bad.injEq] at h
        omega
theorem val_in (B : Nat) : ∀ d, ValIn B (valP d)
  | d, m, ms, c, p, e, hm, hin, h => by
    unfold valP at h
    by_cases h1 : begV m = false
    · rw [if_pos h1] at h; simp only [PR.bad.injEq] at h; omega
    by_cases h2 : 8192 ≤ c
    · rw [if_neg h1, if_pos h2] at h; simp only [PR.bad.injEq] at h; omega
    by_cases h3 : m.k ≠ 1 ∧ m.k ≠ 3
    · rw [if_neg h1, if_neg h2, if_pos h3] at h; simp at h
    rw [if_neg h1, if_neg h2, if_neg h3] at h
    revert h
    match d with
    | 0 => intro h; simp only [PR.bad.injEq] at h; omega
    | d + 1 =>
      intro h
      simp only [] at h
      by_cases h4 : m.k = 3
      · rw [if_pos h4] at h
        unfold listP at h
        refine nextL_in hin (fun m2 r2 hm2 hr2 p e h => ?_) h
        by_cases k4 : m2.k = 4
        · rw [if_pos k4] at h; simp at h
        rw [if_neg k4] at h
        exact items_in (val_in B d) (val_takes d) _ _ _ _ _ _ _ hm2 hr2 h
      · rw [if_neg h4] at h
        unfold objP at h
        refine nextL_in hin (fun m2 r2 hm2 hr2 p e h => ?_) h
        by_cases k4 : m2.k = 2
        · rw [if_pos k4] at h; simp at h
        rw [if_neg k4] at h
        exact members_in (val_in B d) (val_takes d) _ _ _ _ _ _ _ hm2 hr2 h
theorem readV_in {s : List UInt8} {p : Nat} {e : Int} (h : readV s = .bad p e) : p ≤ s.length := by
  unfold readV at h
  by_cases hl : 65536 < s.length
  · rw [if_pos hl] at h; simp only [PR.bad.injEq] at h; omega
  rw [if_neg hl] at h
  have hin := lexes_in s.length s 0 (Nat.le_refl _)
  rw [Nat.zero_add] at hin
  refine nextL_in hin (fun m r hm hr p e h => ?_) h
  unfold topP at h
  cases hval : valP 12 m r 0 with
  | bad q e' =>
    rw [hval] at h
    simp only [PR.bad.injEq] at h
    have := val_in s.length 12 m r 0 q e' hm hr hval
    omega
  | ok u ms1 c1 =>
    rw [hval] at h
    obtain ⟨pre, -, rfl, -⟩ := val_takes 12 _ _ _ _ _ _ hval
    simp only [endP] at h
    refine nextL_in hr.drop (fun m2 r2 hm2 hr2 p e h => ?_) h
    by_cases h11 : m2.k ≠ 11
    · rw [if_pos h11] at h; simp only [PR.bad.injEq] at h; omega
    · rw [if_neg h11] at h; simp at h

/-! A front of a text. -/
theorem tw_cut {p : UInt8 → Bool} : ∀ (l r : List UInt8), (l.takeWhile p).length < l.length → (l ++ r).takeWhile p = l.takeWhile p
  | [], r, h => by simp at h
  | c :: l, r, h => by
    by_cases hc : p c = true
    · rw [List.cons_append, List.takeWhile_cons, List.takeWhile_cons, if_pos hc, if_pos hc]
      rw [List.takeWhile_cons, if_pos hc] at h
      rw [tw_cut l r (by simpa using h)]
    · rw [List.cons_append, List.takeWhile_cons, List.takeWhile_cons, if_neg hc, if_neg hc]
/-- A mark behind which something stands does not hang on what is behind that. -/
theorem tokP_cut {l : List UInt8} (hl : l ≠ []) (r : List UInt8) (h : (tokP l).e = 0) (hlt : (tokP l).len < l.length ∨ (tokP l).k ≤ 6) : tokP (l ++ r) = tokP l := by
  match l, hl with
  | c :: l, _ =>
    rw [List.cons_append, tokP, tokP]
    rw [tokP] at h hlt
    by_cases h1 : signOf c ≠ 0
    · rw [if_pos h1, if_pos h1]
    · rw [if_neg h1] at h hlt
      rw [if_neg h1, if_neg h1]
      by_cases h2 : c.toNat = 34
      · rw [if_pos h2, textP_e] at h
        rw [if_pos h2, if_pos h2, textP_eq, textP_eq, strQ_more r _ l [] (Nat.le_refl _) (by rw [h]; decide)]
      · rw [if_neg h2] at h hlt
        rw [if_neg h2, if_neg h2]
        by_cases h3 : numFirst c = true
        · rw [if_pos h3] at h hlt
          rw [if_pos h3, if_pos h3, ← List.cons_append]
          obtain ⟨a1, a2, -⟩ := numP_ok h
          rcases hlt with hlt | hlt
          · exact numP_of (tw_cut _ _ (by rw [← a1]; exact hlt))
          · omega
        · rw [if_neg h3] at h hlt
          rw [if_neg h3, if_neg h3, ← List.cons_append]
          obtain ⟨a1, a2, -⟩ := wordP_ok h
          rcases hlt with hlt | hlt
          · exact wordP_of (tw_cut _ _ (by rw [← a1]; exact hlt))
          · omega
theorem tokP_sign {l : List UInt8} (h : (tokP l).e = 0) (hk : (tokP l).k ≤ 6) : ∃ c r, l = c :: r ∧ signOf c = (tokP l).k ∧ (tokP l).len = 1 := by
  match l with
  | [] => rw [tokP_nil] at hk; simp at hk
  | c :: l =>
    refine ⟨c, l, rfl, ?_⟩
    rw [tokP] at h hk ⊢
    by_cases h1 : signOf c ≠ 0
    · rw [if_pos h1]; exact ⟨rfl, rfl⟩
    · rw [if_neg h1] at h hk
      by_cases h2 : c.toNat = 34
      · rw [if_pos h2] at h hk
        rw [textP_e] at h
        rw [textP_eq, if_neg (by rw [h]; decide)] at hk
        simp at hk
      · rw [if_neg h2] at h hk
        by_cases h3 : numFirst c = true
        · rw [if_pos h3] at h hk
          have := (numP_ok h).2.1
          omega
        · rw [if_neg h3] at h hk
          have := (wordP_ok h).2.1
          omega
theorem blanks_cut {u : List UInt8} (x : List UInt8) (hne : u.drop (blanks u) ≠ []) : blanks (u ++ x) = blanks u := by
  match hd : u.drop (blanks u), hne with
  | c :: r', _ =>
    have hbl := blanks_le u
    have hc := blanks_head u c r' hd
    have hs : u = u.take (blanks u) ++ (c :: r') := by rw [← hd]; exact blanks_split u
    have hz : blanks (c :: r' ++ x) = 0 := blanks_zero (r' ++ x) hc
    have := blanks_all (u.take (blanks u)) (blanks_take u) (c :: r' ++ x)
    rw [← List.append_assoc, ← hs, hz, List.length_take] at this
    omega
/-- The marks of a front up to one that is no word, number or text are the text's. -/
theorem lexes_cut (x : List UInt8) : ∀ (pre : List Lx) (u : List UInt8) (p : Nat) (ml : Mk) (r : List Lx), Toks pre → lexes u p = pre ++ .tok ml :: r → ml.k ≤ 6 →
    p < ml.z ∧ ml.z ≤ p + u.length ∧ (∃ c, u[ml.z - 1 - p]? = some c ∧ signOf c = ml.k) ∧ lexes (u ++ x) p = pre ++ .tok ml :: lexes ((u ++ x).drop (ml.z - p)) ml.z
  | [], u, p, ml, r, _, h, hm => by
    rw [lexes_step] at h
    by_cases h1 : (tokB u).e ≠ 0
    · rw [if_pos h1] at h
      simp at h
    rw [if_neg h1] at h
    simp only [List.nil_append, List.cons.injEq, Lx.tok.injEq] at h
    obtain ⟨rfl, -⟩ := h
    have h2 : (tokB u).k ≤ 6 := hm
    have h0 : (tokB u).e = 0 := by simpa using h1
    have hne : u.drop (blanks u) ≠ [] := fun e => by have := (tok_end h0).2 e; unfold tokB at h2; omega
    obtain ⟨k1, k2, _⟩ := tokP_ok hne h0
    have j2 : (tokB u).len ≤ u.length - blanks u := by rw [List.length_drop] at k2; exact k2
    have hbl := blanks_le u
    obtain ⟨c, r', hd, hs, hl1⟩ := tokP_sign h0 h2
    have hl1' : (tokB u).len = 1 := hl1
    have e2 : tokB (u ++ x) = tokB u := by
      unfold tokB
      rw [blanks_cut x hne, List.drop_append_of_le_length hbl]
      exact tokP_cut hne x h0 (Or.inr h2)
    simp only [Tok.at]
    refine ⟨by omega, by omega, ⟨c, ?_, hs⟩, ?_⟩
    · have : u[blanks u]? = some c := by
        have := congrArg (fun l => l[0]?) hd
        simpa using this
      rw [← this]
      congr 1
      omega
    · rw [lexes_step, e2, if_neg h1, if_neg (by omega), blanks_cut x hne]
      rw [show p + blanks u + (tokB u).len - p = blanks u + (tokB u).len by omega]
      rfl
  | y :: pre, u, p, ml, r, ht, h, hm => by
    rw [lexes_step] at h
    by_cases h1 : (tokB u).e ≠ 0
    · rw [if_pos h1] at h
      simp at h
    rw [if_neg h1] at h
    simp only [List.cons_append, List.cons.injEq] at h
    obtain ⟨rfl, h⟩ := h
    have h0 : (tokB u).e = 0 := by simpa using h1
    by_cases h2 : (tokB u).k = 11
    · rw [if_pos h2] at h
      simp at h
    rw [if_neg h2] at h
    have hne : u.drop (blanks u) ≠ [] := fun e => h2 ((tok_end h0).2 e)
    obtain ⟨k1, k2, _⟩ := tokP_ok hne h0
    have j2 : (tokB u).len ≤ u.length - blanks u := by rw [List.length_drop] at k2; exact k2
    have j1 : 1 ≤ (tokB u).len := k1
    have hbl := blanks_le u
    obtain ⟨a1, a2, ⟨c, a3, a3'⟩, a4⟩ := lexes_cut x pre _ _ ml r (fun z hz => ht z (by simp [hz])) h hm
    rw [List.length_drop] at a2
    have hlt : (tokB u).len < (u.drop (blanks u)).length := by rw [List.length_drop]; omega
    have e2 : tokB (u ++ x) = tokB u := by
      unfold tokB
      rw [blanks_cut x hne, List.drop_append_of_le_length hbl]
      exact tokP_cut hne x h0 (Or.inl hlt)
    rw [List.length_drop] at hlt
    refine ⟨by omega, by omega, ⟨c, ?_, a3'⟩, ?_⟩
    · rw [List.getElem?_drop] at a3
      rw [← a3]
      congr 1
      omega
    · rw [lexes_step, e2, if_neg h1, if_neg h2, blanks_cut x hne, List.drop_append_of_le_length (by omega), a4, ← List.drop_append_of_le_length (by omega), List.drop_drop]
      rw [show blanks u + (tokB u).len + (ml.z - (p + blanks u + (tokB u).len)) = ml.z - p by omega]
      rfl
theorem sign_cases {c : UInt8} {k : Int} (h : signOf c = k) (hk : k = 4 ∨ k = 2) : c = 93 ∨ c = 125 := by
  unfold signOf at h
  have h93 : c.toNat = 93 → c = 93 := fun e => UInt8.toNat_inj.1 e
  have h125 : c.toNat = 125 → c = 125 := fun e => UInt8.toNat_inj.1 e
  split at h
  · omega
  split at h
  · right; exact h125 ‹_›
  split at h
  · omega
  split at h
  · left; exact h93 ‹_›
  split at h
  · omega
  split at h <;> omega
theorem sign_blank {c : UInt8} (h : isBlank c = true) : c ≠ 93 ∧ c ≠ 125 := by
  constructor <;> rintro rfl <;> simp [isBlank] at h
theorem end_blank {l : List UInt8} {p : Nat} {m : Mk} {r : List Lx} (h : lexes l p = .tok m :: r) (hm : m.k = 11) : ∀ c ∈ l, isBlank c = true := by
  rw [lexes_step] at h
  by_cases h1 : (tokB l).e ≠ 0
  · rw [if_pos h1] at h; simp at h
  rw [if_neg h1] at h
  simp only [List.cons.injEq, Lx.tok.injEq] at h
  have hk : (tokB l).k = 11 := by
    have := congrArg Mk.k h.1
    exact this.trans hm
  have e := (tok_end (Classical.not_not.1 h1)).1 hk
  have e1 := congrArg List.length e
  rw [List.length_drop, List.length_nil] at e1
  have e2 := blanks_le l
  have hall := blanks_take l
  rwa [show blanks l = l.length by omega, List.take_length] at hall
/-- The first mark of a front is the text's, where that is no word, number or text; or there is none. -/
theorem first_cut {s : List UInt8} {k : Nat} {m0 m1 : Mk} {r0 r1 : List Lx} (h0 : lexes s 0 = .tok m0 :: r0) (h1 : lexes (s.take k) 0 = .tok m1 :: r1) (hk : m0.k ≤ 6) : m1.k = m0.k ∨ m1.k = 11 := by
  rw [lexes_step] at h0 h1
  by_cases g0 : (tokB s).e ≠ 0
  · rw [if_pos g0] at h0; simp at h0
  rw [if_neg g0] at h0
  by_cases g1 : (tokB (s.take k)).e ≠ 0
  · rw [if_pos g1] at h1; simp at h1
  rw [if_neg g1] at h1
  simp only [List.cons.injEq, Lx.tok.injEq] at h0 h1
  obtain ⟨rfl, -⟩ := h0
  obtain ⟨rfl, -⟩ := h1
  have hk' : (tokB s).k ≤ 6 := hk
  show (tokB (s.take k)).k = (tokB s).k ∨ (tokB (s.take k)).k = 11
  obtain ⟨c, r', hd, hs, -⟩ := tokP_sign (l := s.drop (blanks s)) (Classical.not_not.1 g0) hk'
  have hs' : signOf c = (tokB s).k := hs
  have hsp : s = s.take (blanks s) ++ (c :: r') := by rw [← hd]; exact blanks_split s
  have hbl := blanks_le s
  have hpos : signOf c ≠ 0 := by
    intro e
    have hne : s.drop (blanks s) ≠ [] := by rw [hd]; simp
    obtain ⟨-, -, k3, -⟩ := tokP_ok hne (Classical.not_not.1 g0)
    have : 1 ≤ (tokB s).k := k3
    omega
  by_cases hle : k ≤ blanks s
  · right
    have hall : ∀ c ∈ s.take k, isBlank c = true := fun c hc => blanks_take s c (by
      have : s.take k = (s.take (blanks s)).take k := by rw [List.take_take, Nat.min_eq_left hle]
      rw [this] at hc
      exact List.mem_of_mem_take hc)
    have hb := blanks_all (s.take k) hall []
    rw [List.append_nil] at hb
    unfold tokB
    rw [hb, show blanks [] = 0 from rfl, Nat.add_zero, List.drop_length]
    rfl
  · left
    obtain ⟨j, hj⟩ : ∃ j, k = blanks s + (j + 1) := ⟨k - blanks s - 1, by omega⟩
    have hlen : (s.take (blanks s)).length = blanks s := by rw [List.length_take]; omega
    have hu : s.take k = s.take (blanks s) ++ (c :: r'.take j) := by
      conv => lhs; rw [hsp]
      rw [List.take_append, hlen, List.take_of_length_le (by omega), hj, Nat.add_sub_cancel_left]
      rfl
    have hcb : isBlank c = false := blanks_head s c r' hd
    have hb : blanks (s.take k) = blanks s := by
      rw [hu, blanks_all _ (blanks_take s), blanks_zero _ hcb, hlen]; rfl
    unfold tokB
    rw [hb, hu, List.drop_append_of_le_length (by omega), List.drop_of_length_le (by omega), List.nil_append, tokP, if_pos hpos]
    exact hs'
/-- A list or an object that is read: behind its last mark stand blanks alone. -/
theorem read_shut {s : List UInt8} {v : JV} {ms : List Lx} {c : Nat} (h : readV s = .ok v ms c) (hv : (v.k = 4 ∨ v.k = 5) ∨ ∀ m0 r, lexes s 0 = .tok m0 :: r → m0.k = 1 ∨ m0.k = 3) :
    ∃ m0 pre ml, lexes s 0 = .tok m0 :: (pre ++ .tok ml :: [.tok ⟨11, s.length, s.length, 0, []⟩]) ∧ Toks pre ∧ (ml.k = 4 ∨ ml.k = 2) ∧ (m0.k = 1 ∨ m0.k = 3) ∧ (∀ A, valP 12 m0 (pre ++ .tok ml :: A) 0 = .ok v A c) ∧
      0 < ml.z ∧ ml.z ≤ s.length ∧ (∃ b, s[ml.z - 1]? = some b ∧ (b = 93 ∨ b = 125)) := by
  obtain ⟨-, m0, pre, hlex, ht, hp⟩ := readV_ok h
  have h1 := hp [.tok ⟨11, s.length, s.length, 0, []⟩]
  rcases val_last 12 _ _ _ _ _ _ h1 with ⟨hm0, pre', ml, hpre, hml⟩ | ⟨n1, n3, n4, n5⟩
  · have hpre' : pre = pre' ++ [.tok ml] := by
      have : pre ++ [Lx.tok ⟨11, s.length, s.length, 0, []⟩] = (pre' ++ [.tok ml]) ++ [Lx.tok ⟨11, s.length, s.length, 0, []⟩] := by rw [hpre]; simp
      exact List.append_cancel_right this
    subst hpre'
    have ht' : Toks pre' := fun x hx => ht x (by simp [hx])
    have hlex2 : lexes s 0 = (.tok m0 :: pre') ++ .tok ml :: [.tok ⟨11, s.length, s.length, 0, []⟩] := by rw [hlex]; simp
    obtain ⟨z1, z2, ⟨b, hb, hsb⟩, -⟩ := lexes_cut [] (.tok m0 :: pre') s 0 ml _ (toks_cons ht') hlex2 (by omega)
    exact ⟨m0, pre', ml, by rw [hlex]; simp, ht', hml, hm0, fun A => by have := hp A; rwa [List.append_assoc] at this, by omega, by omega, ⟨b, by simpa using hb, sign_cases hsb hml⟩⟩
  · exfalso
    rcases hv with hv | hv
    · omega
    · have := hv m0 _ hlex
      omega
/-- A front that ends ahead of the last bracket is no text of JSON. -/
theorem front_plain {s : List UInt8} {v : JV} {ms : List Lx} {c n k : Nat} (h : readV s = .ok v ms c) (hv : v.k = 4 ∨ v.k = 5) (hn : n ≤ s.length) (hlast : n = 0 ∨ ∃ b, s[n - 1]? = some b ∧ (b = 93 ∨ b = 125)) (hb : ∀ i b, n ≤ i → s[i]? = some b → b ≠ 93 ∧ b ≠ 125) :
    0 < n ∧ (k < n → ∃ p e, readV (s.take k) = .bad p e ∧ p < n) := by
  obtain ⟨m0, pre, ml, hlex, ht, hml, hm0, hp, z0, z1, ⟨b, hz, hzb⟩⟩ := read_shut h (Or.inl hv)
  have hzn : ml.z ≤ n := by
    apply Nat.le_of_not_lt
    intro hlt
    have := hb (ml.z - 1) b (by omega) hz
    rcases hzb with rfl | rfl
    · exact this.1 rfl
    · exact this.2 rfl
  refine ⟨by omega, fun hk => ?_⟩
  have hlen : (s.take k).length = k := by rw [List.length_take]; omega
  match hu : readV (s.take k) with
  | .bad p e =>
    have := readV_in hu
    exact ⟨p, e, rfl, by omega⟩
  | .ok v' ms' c' =>
    exfalso
    have hsplit : s = s.take k ++ s.drop k := (List.take_append_drop k s).symm
    have hfirst : ∀ m1 r1, lexes (s.take k) 0 = .tok m1 :: r1 → m1.k = 1 ∨ m1.k = 3 := by
      intro m1 r1 h1
      rcases first_cut hlex h1 (by omega) with h2 | h2
      · omega
      · obtain ⟨-, m2, pre2, hlex2, -, hp2⟩ := readV_ok hu
        rw [hlex2] at h1
        simp only [List.cons.injEq, Lx.tok.injEq] at h1
        obtain ⟨rfl, -⟩ := h1
        have := hp2 []
        rw [valP, if_pos (by simp [begV, h2])] at this
        simp at this
    obtain ⟨m1, pre1, ml1, hlex1, ht1, hml1, hm1, hp1, y0, y1, -⟩ := read_shut hu (Or.inr hfirst)
    have hlex1' : lexes (s.take k) 0 = (.tok m1 :: pre1) ++ .tok ml1 :: [.tok ⟨11, (s.take k).length, (s.take k).length, 0, []⟩] := by rw [hlex1]; rfl
    obtain ⟨-, -, -, hcut⟩ := lexes_cut (s.drop k) (.tok m1 :: pre1) (s.take k) 0 ml1 _ (toks_cons ht1) hlex1' (by omega)
    rw [← hsplit, Nat.sub_zero] at hcut
    have hrd := h
    unfold readV at hrd
    have hl : ¬ 65536 < s.length := fun hl => by rw [if_pos hl] at hrd; simp at hrd
    rw [if_neg hl, hcut] at hrd
    have hrd2 : topP m1 (pre1 ++ .tok ml1 :: lexes (s.drop ml1.z) ml1.z) = .ok v ms c := hrd
    unfold topP at hrd2
    rw [hp1] at hrd2
    simp only [endP] at hrd2
    obtain ⟨me, r1, hme, hrd3⟩ := nextL_ok hrd2
    have h11 : me.k = 11 := by
      apply Classical.byContradiction
      intro hne
      rw [if_pos hne] at hrd3
      simp at hrd3
    have hall := end_blank hme h11
    rcases hlast with rfl | ⟨b2, hb2, hbb⟩
    · omega
    · have := sign_blank (hall b2 (List.mem_of_getElem? (i := n - 1 - ml1.z) (by rw [List.getElem?_drop, ← hb2]; congr 1; omega)))
      rcases hbb with rfl | rfl
      · exact this.1 rfl
      · exact this.2 rfl
end

section
open Go.RowKit

def ValCount (val : Mk → List Lx → Nat → PR JV) : Prop := ∀ m ms c v ms' c', val m ms c = .ok v ms' c' → c < c' ∧ c' ≤ 8192
theorem items_count {val : Mk → List Lx → Nat → PR JV} (hv : ValCount val) : ∀ (f : Nat) (m : Mk) (ms : List Lx) (c : Nat) (acc : List JV) (v : JV) (ms' : List Lx) (c' : Nat), itemsP val f m ms c acc = .ok v ms' c' → c < c' ∧ c' ≤ 8192
  | 0, m, ms, c, acc, v, ms', c', h => by simp [itemsP] at h
  | f + 1, m, ms, c, acc, v, ms', c', h => by
    rw [itemsP] at h
    cases hval : val m ms c with
    | bad p e => rw [hval] at h; simp at h
    | ok u ms1 c1 =>
      rw [hval] at h
      have hc := hv m ms c u ms1 c1 hval
      simp only [moreP] at h
      obtain ⟨m2, r2, ee, h'⟩ := nextL_ok h
      clear h
      by_cases k4 : m2.k = 4
      · rw [if_pos k4] at h'
        simp only [PR.ok.injEq] at h'
        omega
      · rw [if_neg k4] at h'
        by_cases k5 : m2.k = 5
        · rw [if_pos k5] at h'
          obtain ⟨m3, r3, ee3, h⟩ := nextL_ok h'
          have := items_count hv f m3 r3 c1 _ v ms' c' h
          omega
        · rw [if_neg k5] at h'
          simp at h'
theorem members_count {val : Mk → List Lx → Nat → PR JV} (hv : ValCount val) : ∀ (f : Nat) (m : Mk) (ms : List Lx) (c : Nat) (acc : List Mem) (v : JV) (ms' : List Lx) (c' : Nat), membersP val f m ms c acc = .ok v ms' c' → c < c' ∧ c' ≤ 8192
  | 0, m, ms, c, acc, v, ms', c', h => by simp [membersP] at h
  | f + 1, m, ms, c, acc, v, ms', c', h => by
    rw [membersP] at h
    by_cases h10 : m.k ≠ 10
    · rw [if_pos h10] at h; simp at h
    rw [if_neg h10] at h
    by_cases hn : hasN acc m.name = true
    · rw [if_pos hn] at h; simp at h
    rw [if_neg hn] at h
    obtain ⟨m2, r2, ee, h'⟩ := nextL_ok h
    clear h
    by_cases h6 : m2.k ≠ 6
    · rw [if_pos h6] at h'; simp at h'
    rw [if_neg h6] at h'
    obtain ⟨m3, r3, ee3, h⟩ := nextL_ok h'
    clear h'
    cases hval : val m3 r3 c with
    | bad p e => rw [hval] at h; simp at h
    | ok u ms1 c1 =>
      rw [hval] at h
      have hc := hv m3 r3 c u ms1 c1 hval
      simp only [moreP] at h
      obtain ⟨m4, r4, ee4, h'⟩ := nextL_ok h
      clear h
      by_cases k2 : m4.k = 2
      · rw [if_pos k2] at h'
        simp only [PR.ok.injEq] at h'
        omega
      · rw [if_neg k2] at h'
        by_cases k5 : m4.k = 5
        · rw [if_pos k5] at h'
          obtain ⟨m5, r5, ee5, h⟩ := nextL_ok h'
          have := members_count hv f m5 r5 c1 _ v ms' c' h
          omega
        · rw [if_neg k5] at h'
          simp at h'
theorem list_count {val : Mk → List Lx → Nat → PR JV} (hv : ValCount val) {ms : List Lx} {c : Nat} {v : JV} {ms' : List Lx} {c' : Nat} (hc : c ≤ 8192) (h : listP val ms c = .ok v ms' c') : c ≤ c' ∧ c' ≤ 8192 := by
  unfold listP at h
  obtain ⟨m, r, ee, h'⟩ := nextL_ok h
  by_cases k4 : m.k = 4
  · rw [if_pos k4] at h'
    simp only [PR.ok.injEq] at h'
    omega
  · rw [if_neg k4] at h'
    have := items_count hv _ m r c _ v ms' c' h'
    omega
theorem obj_count {val : Mk → List Lx → Nat → PR JV} (hv : ValCount val) {ms : List Lx} {c : Nat} {v : JV} {ms' : List Lx} {c' : Nat} (hc : c ≤ 8192) (h : objP val ms c = .ok v ms' c') : c ≤ c' ∧ c' ≤ 8192 := by
  unfold objP at h
  obtain ⟨m, r, ee, h'⟩ := nextL_ok h
  by_cases k4 : m.k = 2
  · rw [if_pos k4] at h'
    simp only [PR.ok.injEq] at h'
    omega
  · rw [if_neg k4] at h'
    have := members_count hv _ m r c _ v ms' c' h'
    omega
theorem val_count : ∀ d, ValCount (valP d)
  | 0 => fun m ms c v ms' c' h => by
    rw [valP] at h
    by_cases h1 : begV m = false
    · rw [if_pos h1] at h; simp at h
    by_cases h2 : 8192 ≤ c
    · rw [if_neg h1, if_pos h2] at h; simp at h
    by_cases h3 : m.k ≠ 1 ∧ m.k ≠ 3
    · rw [if_neg h1, if_neg h2, if_pos h3] at h
      simp only [PR.ok.injEq] at h
      omega
    · rw [if_neg h1, if_neg h2, if_neg h3] at h; simp at h
  | d + 1 => fun m ms c v ms' c' h => by
    rw [valP] at h
    by_cases h1 : begV m = false
    · rw [if_pos h1] at h; simp at h
    by_cases h2 : 8192 ≤ c
    · rw [if_neg h1, if_pos h2] at h; simp at h
    by_cases h3 : m.k ≠ 1 ∧ m.k ≠ 3
    · rw [if_neg h1, if_neg h2, if_pos h3] at h
      simp only [PR.ok.injEq] at h
      omega
    · rw [if_neg h1, if_neg h2, if_neg h3] at h
      by_cases h4 : m.k = 3
      · rw [if_pos h4] at h
        have := list_count (val_count d) (by omega) h
        omega
      · rw [if_neg h4] at h
        have := obj_count (val_count d) (by omega) h
        omega
end

section
open Go.RowKit

theorem bl_irrefl : ∀ x : List UInt8, Op.bytesLess x x = false
  | [] => rfl
  | a :: x => by
    rw [Op.bytesLess, bl_irrefl x]
    simp
theorem bl_cases (a : UInt8) (x : List UInt8) (b : UInt8) (y : List UInt8) : Op.bytesLess (a :: x) (b :: y) = true ↔ a.toNat < b.toNat ∨ (a.toNat = b.toNat ∧ Op.bytesLess x y = true) := by
  rw [Op.bytesLess]
  simp only [Bool.or_eq_true, decide_eq_true_eq, Bool.and_eq_true, beq_iff_eq, UInt8.lt_iff_toNat_lt, ← UInt8.toNat_inj]
theorem bl_trans : ∀ x y z : List UInt8, Op.bytesLess x y = true → Op.bytesLess y z = true → Op.bytesLess x z = true
  | _, [], _, h, _ => by simp [Op.bytesLess] at h
  | _, _ :: _, [], _, h => by simp [Op.bytesLess] at h
  | [], _ :: _, _ :: _, _, _ => rfl
  | a :: x, b :: y, c :: z, h1, h2 => by
    rw [bl_cases] at h1 h2 ⊢
    rcases h1 with h1 | ⟨h1, h1'⟩
    · rcases h2 with h2 | ⟨h2, h2'⟩
      · exact Or.inl (by omega)
      · exact Or.inl (by omega)
    · rcases h2 with h2 | ⟨h2, h2'⟩
      · exact Or.inl (by omega)
      · exact Or.inr ⟨by omega, bl_trans x y z h1' h2'⟩
theorem bl_total : ∀ x y : List UInt8, Op.bytesLess x y = false → Op.bytesLess y x = false → x = y
  | [], [], _, _ => rfl
  | [], _ :: _, h, _ => by simp [Op.bytesLess] at h
  | _ :: _, [], _, h => by simp [Op.bytesLess] at h
  | a :: x, b :: y, h1, h2 => by
    have g1 : ¬ Op.bytesLess (a :: x) (b :: y) = true := by rw [h1]; decide
    have g2 : ¬ Op.bytesLess (b :: y) (a :: x) = true := by rw [h2]; decide
    rw [bl_cases] at g1 g2
    have e : a.toNat = b.toNat := by omega
    have ea : a = b := UInt8.toNat_inj.1 e
    subst ea
    rw [bl_total x y (by simpa using fun h => g1 (Or.inr ⟨rfl, h⟩)) (by simpa using fun h => g2 (Or.inr ⟨rfl, h⟩))]
theorem bl_asymm {x y : List UInt8} (h : Op.bytesLess x y = true) : Op.bytesLess y x = false := by
  cases h2 : Op.bytesLess y x with
  | false => rfl
  | true =>
    have := bl_trans x y x h h2
    rw [bl_irrefl] at this
    cases this
theorem bl_ntrans (x y z : List UInt8) (h1 : Op.bytesLess x y = false) (h2 : Op.bytesLess y z = false) : Op.bytesLess x z = false := by
  cases h3 : Op.bytesLess x z with
  | false => rfl
  | true =>
    cases h4 : Op.bytesLess y x with
    | true =>
      have := bl_trans y x z h4 h3
      rw [h2] at this
      cases this
    | false =>
      have := bl_total x y h1 h4
      subst this
      rw [h2] at h3
      cases h3
theorem compare_bl : ∀ x y : List UInt8, decide (Lib.compareBytes x y < 0) = Op.bytesLess x y
  | [], [] => rfl
  | [], _ :: _ => rfl
  | _ :: _, [] => rfl
  | a :: x, b :: y => by
    rw [Lib.compareBytes]
    by_cases h1 : a < b
    · rw [if_pos h1, (bl_cases a x b y).2 (Or.inl (UInt8.lt_iff_toNat_lt.1 h1))]; rfl
    · rw [if_neg h1]
      have g1 : ¬ a.toNat < b.toNat := fun h => h1 (UInt8.lt_iff_toNat_lt.2 h)
      by_cases h2 : b < a
      · have g2 := UInt8.lt_iff_toNat_lt.1 h2
        rw [if_pos h2]
        cases h3 : Op.bytesLess (a :: x) (b :: y) with
        | false => rfl
        | true => rw [bl_cases] at h3; omega
      · have g2 : ¬ b.toNat < a.toNat := fun h => h2 (UInt8.lt_iff_toNat_lt.2 h)
        rw [if_neg h2, compare_bl x y]
        cases h3 : Op.bytesLess x y with
        | true => rw [(bl_cases a x b y).2 (Or.inr ⟨by omega, h3⟩)]
        | false =>
          cases h4 : Op.bytesLess (a :: x) (b :: y) with
          | false => rfl
          | true =>
            rw [bl_cases] at h4
            rcases h4 with h4 | ⟨-, h4⟩
            · exact absurd h4 g1
            · rw [h3] at h4; cases h4

theorem nmLt_eq (a b : ByteArray) : nmLt a b = Op.bytesLess a.data.toList b.data.toList := by unfold nmLt; rw [toList_data, toList_data]
theorem insM_perm (x : Mem) : ∀ l : List Mem, (insM x l).Perm (x :: l)
  | [] => List.Perm.refl _
  | y :: r => by
    rw [insM]
    by_cases h : nmLt y.1 x.1 = true
    · rw [if_pos h]
      exact ((insM_perm x r).cons y).trans (List.Perm.swap x y r)
    · rw [if_neg h]
theorem sortGo_perm : ∀ (l acc : List Mem), (l.foldl (fun acc x => insM x acc) acc).Perm (acc ++ l)
  | [], acc => by simp
  | x :: l, acc => by
    refine (sortGo_perm l (insM x acc)).trans ?_
    refine ((insM_perm x acc).append_right l).trans ?_
    exact List.perm_middle.symm
theorem sortM_perm (l : List Mem) : (sortM l).Perm l := by simpa [sortM] using sortGo_perm l []
def MemLe (a b : Mem) : Prop := nmLt b.1 a.1 = false
theorem insM_sorted (x : Mem) : ∀ l : List Mem, l.Pairwise MemLe → (insM x l).Pairwise MemLe
  | [], _ => by simp [insM]
  | y :: r, h => by
    rw [List.pairwise_cons] at h
    rw [insM]
    by_cases hl : nmLt y.1 x.1 = true
    · rw [if_pos hl, List.pairwise_cons]
      refine ⟨fun z hz => ?_, insM_sorted x r h.2⟩
      have hz' := (insM_perm x r).mem_iff.1 hz
      rw [List.mem_cons] at hz'
      rcases hz' with rfl | hz'
      · unfold MemLe
        rw [nmLt_eq] at hl ⊢
        exact bl_asymm hl
      · exact h.1 z hz'
    · rw [if_neg hl, List.pairwise_cons, List.pairwise_cons]
      have hxy : MemLe x y := by unfold MemLe; simpa using hl
      refine ⟨fun z hz => ?_, h⟩
      rw [List.mem_cons] at hz
      rcases hz with rfl | hz
      · exact hxy
      · have := h.1 z hz
        unfold MemLe at this hxy ⊢
        rw [nmLt_eq] at *
        exact bl_ntrans _ _ _ this hxy
theorem sortGo_sorted : ∀ (l acc : List Mem), acc.Pairwise MemLe → (l.foldl (fun acc x => insM x acc) acc).Pairwise MemLe
  | [], _acc, h => h
  | x :: l, acc, h => sortGo_sorted l (insM x acc) (insM_sorted x acc h)
theorem sortM_sorted (l : List Mem) : (sortM l).Pairwise MemLe := sortGo_sorted l [] List.Pairwise.nil
def Apart (l : List Mem) : Prop := l.Pairwise fun a b => a.1.data.toList ≠ b.1.data.toList
theorem apart_eq : ∀ (l : List Mem), Apart l → ∀ a b, a ∈ l → b ∈ l → a.1.data.toList = b.1.data.toList → a = b
  | [], _, a, b, ha, _, _ => by simp at ha
  | x :: l, h, a, b, ha, hb, e => by
    unfold Apart at h
    rw [List.pairwise_cons] at h
    rw [List.mem_cons] at ha hb
    rcases ha with rfl | ha
    · rcases hb with rfl | hb
      · rfl
      · exact absurd e (h.1 b hb)
    · rcases hb with rfl | hb
      · exact absurd e.symm (h.1 a ha)
      · exact apart_eq l h.2 a b ha hb e
theorem sorted_one {l l' : List Mem} (hd : Apart l) (hp : l'.Perm l) (hs : l'.Pairwise MemLe) : l' = sortM l := by
  refine List.Perm.eq_of_pairwise (le := MemLe) (fun a b ha hb h1 h2 => ?_) hs (sortM_sorted l) (hp.trans (sortM_perm l).symm)
  refine apart_eq l hd a b (hp.mem_iff.1 ha) ((sortM_perm l).mem_iff.1 hb) ?_
  unfold MemLe at h1 h2
  rw [nmLt_eq] at h1 h2
  exact bl_total _ _ h2 h1
theorem apart_snoc {acc : List Mem} {x : Mem} (h : Apart acc) (hn : hasN acc x.1 = false) : Apart (acc ++ [x]) := by
  unfold Apart
  rw [List.pairwise_append]
  refine ⟨h, by simp, fun a ha b hb => ?_⟩
  simp only [List.mem_singleton] at hb
  subst hb
  unfold hasN at hn
  rw [List.any_eq_false] at hn
  simpa using hn a ha
end
end Go.Proofs.YtfdecbfcddkoiaaGreatDoor
