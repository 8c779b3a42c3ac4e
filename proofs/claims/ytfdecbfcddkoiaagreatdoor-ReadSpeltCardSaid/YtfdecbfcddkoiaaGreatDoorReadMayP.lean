/-
  What is read is a value that may be.
-/
import Derived.Test.YtfdecbfcddkoiaaGreatDoorReadUtf
import Derived.Test.YtfdecbfcddkoiaaGreatDoorCanonUniq
namespace Go.Proofs.YtfdecbfcddkoiaaGreatDoor
open Go.RowKit

theorem ascB_of {l : List ByteArray} (h : l.Pairwise (fun a b => Op.bytesLess a.data.toList b.data.toList = true)) : ascB l = true := by
  unfold ascB
  rw [List.all_eq_true]
  intro i hi
  have hi' : i < l.length - 1 := List.mem_range.1 hi
  have h2 := List.pairwise_iff_getElem.1 h i (i + 1) (by omega) (by omega) (by omega)
  unfold lessAt
  rw [toList_data, toList_data, List.getD_eq_getElem?_getD, List.getD_eq_getElem?_getD, List.getElem?_eq_getElem (by omega), List.getElem?_eq_getElem (by omega)]
  exact h2
theorem countL_perm {l l' : List JV} (h : l.Perm l') : countL l = countL l' := by
  induction h with
  | nil => rfl
  | cons x _ ih => rw [countL, countL, ih]
  | swap x y l => simp only [countL]; omega
  | trans _ _ a b => exact a.trans b
theorem depthL_le {l : List JV} {d : Nat} (h : ∀ x ∈ l, depthV x ≤ d) : depthL l ≤ d := by
  induction l with
  | nil => rw [depthL]; omega
  | cons x r ih =>
    rw [depthL]
    have h1 := h x (by simp)
    have h2 := ih (fun y hy => h y (by simp [hy]))
    omega
theorem goodVs_of {l : List JV} (h : ∀ x ∈ l, goodV x = true) : goodVs l = true := by
  induction l with
  | nil => rfl
  | cons x r ih => rw [goodVs, h x (by simp), ih (fun y hy => h y (by simp [hy]))]; rfl
theorem countL_snoc (l : List JV) (x : JV) : countL (l ++ [x]) = countL l + countV x := by
  induction l with
  | nil => simp [countL]
  | cons y r ih => rw [List.cons_append, countL, countL, ih]; omega
/-- The texts of marks may be. -/
def GoodTk (ms : List Lx) : Prop := ∀ m, .tok m ∈ ms → writ m.name = true
theorem GoodTk.drop {a b : List Lx} (h : GoodTk (a ++ b)) : GoodTk b := fun m hm => h m (by simp [hm])
theorem GoodTk.tail {x : Lx} {b : List Lx} (h : GoodTk (x :: b)) : GoodTk b := fun m hm => h m (by simp [hm])
theorem lexes_good : ∀ (n : Nat) (l : List UInt8) (p : Nat), l.length ≤ n → GoodTk (lexes l p)
  | n, l, p, hn => by
    rw [lexes_step]
    by_cases h1 : (tokB l).e ≠ 0
    · rw [if_pos h1]; intro m hm; simp at hm
    rw [if_neg h1]
    have h0 : (tokB l).e = 0 := Classical.not_not.1 h1
    intro m hm
    rw [List.mem_cons] at hm
    rcases hm with hm | hm
    · cases hm
      exact text_writ h0
    · by_cases h2 : (tokB l).k = 11
      · rw [if_pos h2] at hm; simp at hm
      · rw [if_neg h2] at hm
        have hne : l.drop (blanks l) ≠ [] := fun e => h2 ((tok_end h0).2 e)
        obtain ⟨k1, k2, _⟩ := tokP_ok hne h0
        have j1 : 1 ≤ (tokB l).len := k1
        have j2 : (tokB l).len ≤ l.length - blanks l := by rw [List.length_drop] at k2; exact k2
        match n, hn with
        | 0, hn => omega
        | n + 1, hn => exact lexes_good n _ _ (by rw [List.length_drop]; omega) m hm
def ValGood (d : Nat) (val : Mk → List Lx → Nat → PR JV) : Prop := ∀ m ms c V ms' c', writ m.name = true → GoodTk ms → val m ms c = .ok V ms' c' → goodV V = true ∧ depthV V ≤ d ∧ c + countV V = c'
theorem list_good {acc : List JV} {d : Nat} (h : ∀ x ∈ acc, goodV x = true ∧ depthV x ≤ d) : goodV (listV acc) = true ∧ depthV (listV acc) ≤ d + 1 ∧ countV (listV acc) = 1 + countL acc := by
  unfold listV
  refine ⟨?_, ?_, by rw [countV]⟩
  · rw [goodV, if_pos (Or.inl rfl), goodVs_of (fun x hx => (h x hx).1), Bool.and_true]
    unfold properB
    simp
  · rw [depthV, if_pos (Or.inl rfl)]
    have := depthL_le (fun x hx => (h x hx).2)
    omega
theorem items_good {d : Nat} {val : Mk → List Lx → Nat → PR JV} (hv : ValGood d val) (ht : ValTakes val) : ∀ (f : Nat) (m : Mk) (ms : List Lx) (c : Nat) (acc : List JV) (V : JV) (ms' : List Lx) (c' : Nat), writ m.name = true → GoodTk ms → (∀ x ∈ acc, goodV x = true ∧ depthV x ≤ d) → itemsP val f m ms c acc = .ok V ms' c' →
    goodV V = true ∧ depthV V ≤ d + 1 ∧ countV V + c = 1 + countL acc + c'
  | 0, _, _, _, _, _, _, _, _, _, _, h => by simp [itemsP] at h
  | f + 1, m, ms, c, acc, V, ms', c', hm, hg, ha, h => by
    rw [itemsP] at h
    cases hval : val m ms c with
    | bad p e => rw [hval] at h; simp at h
    | ok u ms1 c1 =>
      rw [hval] at h
      obtain ⟨g1, g2, g3⟩ := hv m ms c u ms1 c1 hm hg hval
      obtain ⟨pre, -, hp, -⟩ := ht m ms c u ms1 c1 hval
      have hg1 : GoodTk ms1 := by rw [hp] at hg; exact hg.drop
      have ha' : ∀ x ∈ acc ++ [u], goodV x = true ∧ depthV x ≤ d := fun x hx => by
        rw [List.mem_append] at hx
        rcases hx with hx | hx
        · exact ha x hx
        · simp only [List.mem_singleton] at hx; subst hx; exact ⟨g1, g2⟩
      simp only [moreP] at h
      obtain ⟨m2, r2, ee, h'⟩ := nextL_ok h
      subst ee
      by_cases k4 : m2.k = 4
      · rw [if_pos k4] at h'
        simp only [PR.ok.injEq] at h'
        obtain ⟨rfl, rfl, rfl⟩ := h'
        obtain ⟨l1, l2, l3⟩ := list_good ha'
        exact ⟨l1, l2, by rw [l3, countL_snoc]; omega⟩
      · rw [if_neg k4] at h'
        by_cases k5 : m2.k = 5
        · rw [if_pos k5] at h'
          obtain ⟨m3, r3, ee3, h''⟩ := nextL_ok h'
          subst ee3
          obtain ⟨l1, l2, l3⟩ := items_good hv ht f m3 r3 c1 _ V ms' c' (hg1 m3 (by simp)) hg1.tail.tail ha' h''
          exact ⟨l1, l2, by rw [countL_snoc] at l3; omega⟩
        · rw [if_neg k5] at h'
          simp at h'
theorem obj_good {acc : List Mem} {d : Nat} (h : ∀ x ∈ acc, goodV x.2 = true ∧ depthV x.2 ≤ d) (hn : ∀ x ∈ acc, writ x.1 = true) (hd : Apart acc) : goodV (objV acc) = true ∧ depthV (objV acc) ≤ d + 1 ∧ countV (objV acc) = 1 + countL (acc.map Prod.snd) := by
  have hp := sortM_perm acc
  have hi : ∀ x ∈ (sortM acc).map Prod.snd, goodV x = true ∧ depthV x ≤ d := fun x hx => by
    obtain ⟨y, hy, rfl⟩ := List.mem_map.1 hx
    exact h y (hp.mem_iff.1 hy)
  have hap : Apart (sortM acc) := (List.Perm.pairwise_iff (fun hh => Ne.symm hh) hp).2 hd
  have hst : ((sortM acc).map Prod.fst).Pairwise (fun a b => Op.bytesLess a.data.toList b.data.toList = true) := by
    rw [List.pairwise_map]
    refine ((sortM_sorted acc).and hap).imp fun {a b} hab => ?_
    obtain ⟨h1, h2⟩ := hab
    unfold MemLe at h1
    rw [nmLt_eq] at h1
    cases h3 : Op.bytesLess a.1.data.toList b.1.data.toList with
    | true => rfl
    | false => exact absurd (bl_total _ _ h3 h1) h2
  unfold objV
  refine ⟨?_, ?_, ?_⟩
  · rw [goodV, if_pos (Or.inr rfl), goodVs_of (fun x hx => (hi x hx).1), Bool.and_true]
    have e1 : ascB ((sortM acc).map Prod.fst) = true := ascB_of hst
    have e2 : ((sortM acc).map Prod.fst).all writ = true := by
      rw [List.all_eq_true]
      intro x hx
      obtain ⟨y, hy, rfl⟩ := List.mem_map.1 hx
      exact hn y (hp.mem_iff.1 hy)
    unfold properB
    simp [e1, e2]
  · rw [depthV, if_pos (Or.inr rfl)]
    have := depthL_le (fun x hx => (hi x hx).2)
    omega
  · rw [countV, countL_perm (hp.map Prod.snd)]
theorem members_good {d : Nat} {val : Mk → List Lx → Nat → PR JV} (hv : ValGood d val) (ht : ValTakes val) : ∀ (f : Nat) (m : Mk) (ms : List Lx) (c : Nat) (acc : List Mem) (V : JV) (ms' : List Lx) (c' : Nat), writ m.name = true → GoodTk ms → (∀ x ∈ acc, goodV x.2 = true ∧ depthV x.2 ≤ d) → (∀ x ∈ acc, writ x.1 = true) → Apart acc → membersP val f m ms c acc = .ok V ms' c' →
    goodV V = true ∧ depthV V ≤ d + 1 ∧ countV V + c = 1 + countL (acc.map Prod.snd) + c'
  | 0, _, _, _, _, _, _, _, _, _, _, _, _, h => by simp [membersP] at h
  | f + 1, m, ms, c, acc, V, ms', c', hm, hg, ha, hn, hd, h => by
    rw [membersP] at h
    by_cases h10 : m.k ≠ 10
    · rw [if_pos h10] at h; simp at h
    rw [if_neg h10] at h
    by_cases hnn : hasN acc m.name = true
    · rw [if_pos hnn] at h; simp at h
    rw [if_neg hnn] at h
    obtain ⟨m2, r2, ee, h'⟩ := nextL_ok h
    subst ee
    by_cases h6 : m2.k ≠ 6
    · rw [if_pos h6] at h'; simp at h'
    rw [if_neg h6] at h'
    obtain ⟨m3, r3, ee3, h''⟩ := nextL_ok h'
    subst ee3
    cases hval : val m3 r3 c with
    | bad p e => rw [hval] at h''; simp at h''
    | ok u ms1 c1 =>
      rw [hval] at h''
      obtain ⟨g1, g2, g3⟩ := hv m3 r3 c u ms1 c1 (hg m3 (by simp)) hg.tail.tail hval
      obtain ⟨pre, -, hp, -⟩ := ht m3 r3 c u ms1 c1 hval
      have hg1 : GoodTk ms1 := by have := hg.tail.tail; rw [hp] at this; exact this.drop
      have ha' : ∀ x ∈ acc ++ [(m.name, u)], goodV x.2 = true ∧ depthV x.2 ≤ d := fun x hx => by
        rw [List.mem_append] at hx
        rcases hx with hx | hx
        · exact ha x hx
        · simp only [List.mem_singleton] at hx; subst hx; exact ⟨g1, g2⟩
      have hn' : ∀ x ∈ acc ++ [(m.name, u)], writ x.1 = true := fun x hx => by
        rw [List.mem_append] at hx
        rcases hx with hx | hx
        · exact hn x hx
        · simp only [List.mem_singleton] at hx; subst hx; exact hm
      have hd' : Apart (acc ++ [(m.name, u)]) := apart_snoc hd (by simpa using hnn)
      have hcs : countL ((acc ++ [(m.name, u)]).map Prod.snd) = countL (acc.map Prod.snd) + countV u := by rw [List.map_append]; exact countL_snoc _ _
      simp only [moreP] at h''
      obtain ⟨m4, r4, ee4, h4⟩ := nextL_ok h''
      subst ee4
      by_cases k2 : m4.k = 2
      · rw [if_pos k2] at h4
        simp only [PR.ok.injEq] at h4
        obtain ⟨rfl, rfl, rfl⟩ := h4
        obtain ⟨l1, l2, l3⟩ := obj_good ha' hn' hd'
        exact ⟨l1, l2, by rw [l3, hcs]; omega⟩
      · rw [if_neg k2] at h4
        by_cases k5 : m4.k = 5
        · rw [if_pos k5] at h4
          obtain ⟨m5, r5, ee5, h5⟩ := nextL_ok h4
          subst ee5
          obtain ⟨l1, l2, l3⟩ := members_good hv ht f m5 r5 c1 _ V ms' c' (hg1 m5 (by simp)) hg1.tail.tail ha' hn' hd' h5
          exact ⟨l1, l2, by rw [hcs] at l3; omega⟩
        · rw [if_neg k5] at h4
          simp at h4
theorem leaf_good {m : Mk} (_hb : ¬ begV m = false) (hm : writ m.name = true) (_h3 : m.k ≠ 1 ∧ m.k ≠ 3) (d : Nat) : goodV (leafV m) = true ∧ depthV (leafV m) ≤ d ∧ countV (leafV m) = 1 := by
  unfold leafV
  by_cases h7 : m.k = 7
  · rw [if_pos h7]
    refine ⟨?_, by rw [depthV]; simp, by rw [countV, countL]⟩
    rw [goodV, properB]; simp
  rw [if_neg h7]
  by_cases h8 : m.k = 8
  · rw [if_pos h8]
    refine ⟨?_, by rw [depthV]; simp, by rw [countV, countL]⟩
    rw [goodV, properB]; simp
  rw [if_neg h8]
  by_cases h9 : m.k = 9
  · rw [if_pos h9]
    refine ⟨?_, by rw [depthV]; simp, by rw [countV, countL]⟩
    rw [goodV, properB]; simp
  · rw [if_neg h9]
    refine ⟨?_, by rw [depthV]; simp, by rw [countV, countL]⟩
    rw [goodV, properB, hm]; simp
theorem val_good : ∀ d, ValGood d (valP d)
  | d, m, ms, c, V, ms', c', hm, hg, h => by
    unfold valP at h
    by_cases h1 : begV m = false
    · rw [if_pos h1] at h; simp at h
    rw [if_neg h1] at h
    by_cases h2 : 8192 ≤ c
    · rw [if_pos h2] at h; simp at h
    rw [if_neg h2] at h
    by_cases h3 : m.k ≠ 1 ∧ m.k ≠ 3
    · rw [if_pos h3] at h
      simp only [PR.ok.injEq] at h
      obtain ⟨rfl, rfl, rfl⟩ := h
      obtain ⟨a, b, e⟩ := leaf_good h1 hm h3 d
      exact ⟨a, b, by rw [e]⟩
    rw [if_neg h3] at h
    revert h
    match d with
    | 0 => intro h; simp at h
    | d + 1 =>
      intro h
      dsimp only at h
      by_cases h4 : m.k = 3
      · rw [if_pos h4] at h
        unfold listP at h
        obtain ⟨m2, r2, ee, h'⟩ := nextL_ok h
        subst ee
        by_cases g : m2.k = 4
        · rw [if_pos g] at h'
          simp only [PR.ok.injEq] at h'
          obtain ⟨rfl, rfl, rfl⟩ := h'
          obtain ⟨a, b, e⟩ := list_good (acc := []) (d := d) (by simp)
          exact ⟨a, b, by rw [e, countL]⟩
        · rw [if_neg g] at h'
          obtain ⟨a, b, e⟩ := items_good (val_good d) (val_takes d) _ _ _ _ _ _ _ _ (hg m2 (by simp)) hg.tail (by simp) h'
          rw [countL] at e
          exact ⟨a, b, by omega⟩
      · rw [if_neg h4] at h
        unfold objP at h
        obtain ⟨m2, r2, ee, h'⟩ := nextL_ok h
        subst ee
        by_cases g : m2.k = 2
        · rw [if_pos g] at h'
          simp only [PR.ok.injEq] at h'
          obtain ⟨rfl, rfl, rfl⟩ := h'
          obtain ⟨a, b, e⟩ := obj_good (acc := []) (d := d) (by simp) (by simp) List.Pairwise.nil
          exact ⟨a, b, by rw [e, List.map_nil, countL]⟩
        · rw [if_neg g] at h'
          obtain ⟨a, b, e⟩ := members_good (val_good d) (val_takes d) _ _ _ _ _ _ _ _ (hg m2 (by simp)) hg.tail (by simp) (by simp) List.Pairwise.nil h'
          rw [List.map_nil, countL] at e
          exact ⟨a, b, by omega⟩
theorem writ_size {s : ByteArray} (h : writ s = true) : s.size ≤ 4096 := by
  unfold writ at h
  rw [Bool.and_eq_true, decide_eq_true_eq] at h
  exact h.1
theorem wtN_le {l : List ByteArray} (h : l.all writ = true) : wtN l ≤ 4098 * l.length := by
  induction l with
  | nil => simp [wtN]
  | cons s r ih =>
    rw [List.all_cons, Bool.and_eq_true] at h
    have h1 := writ_size h.1
    have h2 := ih h.2
    unfold wtN at h2 ⊢
    rw [List.map_cons, List.sum_cons, List.length_cons]
    omega
theorem proper_sizes {k n : Int} {t : ByteArray} {names : List ByteArray} {items : List JV} (h : properB (.mk k n t names items) = true) : t.size ≤ 4096 ∧ wtN names ≤ 4098 * names.length ∧ names.length ≤ items.length := by
  have h0 := h
  rcases proper_parts h with ⟨-, -, h2, h3, -⟩ | ⟨-, h2, h3, -⟩ | ⟨h1, -, h3, -⟩ | ⟨-, -, h2, h3⟩ | ⟨h1, -, h2, h3⟩
  · have h3' : names = [] := h3
    have h2' : t.data.toList.length = 0 := by rw [show t.data.toList = [] from h2]; rfl
    subst h3'
    rw [size_len] at h2'
    exact ⟨by omega, by simp [wtN], by simp⟩
  · have h3' : names = [] := h3
    have h2' : t.data.toList.length = 0 := by rw [show t.data.toList = [] from h2]; rfl
    subst h3'
    rw [size_len] at h2'
    exact ⟨by omega, by simp [wtN], by simp⟩
  · have h3' : names = [] := h3
    have h1' : k = 3 := h1
    subst h3' h1'
    refine ⟨?_, by simp [wtN], by simp⟩
    unfold properB at h0
    simp at h0
    exact writ_size h0.2.2
  · have h3' : names = [] := h3
    have h2' : t.data.toList.length = 0 := by rw [show t.data.toList = [] from h2]; rfl
    subst h3'
    rw [size_len] at h2'
    exact ⟨by omega, by simp [wtN], by simp⟩
  · have h1' : k = 5 := h1
    have h3' : names.length = items.length := h3
    have h2' : t.data.toList.length = 0 := by rw [show t.data.toList = [] from h2]; rfl
    subst h1'
    rw [size_len] at h2'
    refine ⟨by omega, wtN_le ?_, by omega⟩
    unfold properB at h0
    simp at h0
    rw [List.all_eq_true]
    exact h0.2.2
set_option maxRecDepth 100000 in
theorem wt_arith (a b c d l : Nat) (h1 : a + 4098 ≤ 8200 * b) (h2 : c + 4098 * l ≤ 8200 * d) : a + c + 4098 * (l + 1) ≤ 8200 * (b + d) := by
  have e1 : 4098 * (l + 1) = 4098 * l + 4098 := Nat.mul_succ _ _
  have e2 : 8200 * (b + d) = 8200 * b + 8200 * d := Nat.mul_add _ _ _
  rw [e1, e2]
  omega
set_option maxRecDepth 100000 in
theorem wt_arith2 (t n w l b q : Nat) (h1 : t ≤ 4096) (h2 : n ≤ 4098 * q) (h3 : q ≤ l) (h4 : w + 4098 * l ≤ 8200 * b) : 4 + t + n + w + 4098 ≤ 8200 * (1 + b) := by
  have e1 : 4098 * q ≤ 4098 * l := Nat.mul_le_mul_left _ h3
  have e2 : 8200 * (1 + b) = 8200 + 8200 * b := by rw [Nat.mul_add]
  rw [e2]
  omega
mutual
/-- How much a value that may be is. -/
theorem wt_good : ∀ (V : JV), goodV V = true → wt V + 4098 ≤ 8200 * countV V
  | .mk k n t names items, h => by
    rw [goodV, Bool.and_eq_true] at h
    obtain ⟨hp, hg⟩ := h
    obtain ⟨h1, h2, h3⟩ := proper_sizes hp
    have hl : wtL items + 4098 * items.length ≤ 8200 * countL items := by
      by_cases hk : k = 4 ∨ k = 5
      · rw [if_pos hk] at hg
        exact wtL_good items hg
      · have hi : items = [] := proper_leaf hp (fun e => hk (Or.inl e)) (fun e => hk (Or.inr e))
        subst hi
        simp [wtL, countL]
    rw [wt_eq, countV]
    exact wt_arith2 _ _ _ _ _ _ h1 h2 h3 hl
theorem wtL_good : ∀ (l : List JV), goodVs l = true → wtL l + 4098 * l.length ≤ 8200 * countL l
  | [], _ => by rw [wtL, countL, List.length_nil]; exact Nat.zero_le _
  | x :: r, h => by
    rw [goodVs, Bool.and_eq_true] at h
    have h1 := wt_good x h.1
    have h2 := wtL_good r h.2
    rw [wtL, countL, List.length_cons]
    exact wt_arith _ _ _ _ _ h1 h2
end
theorem wt_may {V : JV} (h : mayB V = true) : wt V ≤ 1000000000 := by
  obtain ⟨a, -, b⟩ := (mayB_iff V).1 h
  have := wt_good V a
  omega
/-- What is read may be. -/
theorem read_may {s : List UInt8} {V : JV} {ms : List Lx} {c : Nat} (h : readV s = .ok V ms c) : mayB V = true ∧ countV V = c := by
  obtain ⟨-, m0, pre, hlex, ht, hp⟩ := readV_ok h
  have hg := lexes_good s.length s 0 (Nat.le_refl _)
  rw [hlex] at hg
  have h1 := hp [.tok ⟨11, s.length, s.length, 0, []⟩]
  obtain ⟨a, b, e⟩ := val_good 12 m0 _ 0 V _ c (hg m0 (by simp)) hg.tail h1
  obtain ⟨-, hc⟩ := val_count 12 _ _ _ _ _ _ h1
  exact ⟨(mayB_iff V).2 ⟨a, b, by omega⟩, by omega⟩
end Go.Proofs.YtfdecbfcddkoiaaGreatDoor
