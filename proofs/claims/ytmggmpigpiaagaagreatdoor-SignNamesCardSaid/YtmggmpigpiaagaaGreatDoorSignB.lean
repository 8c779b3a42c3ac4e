/-
  Texts that are read are UTF-8.
  What is read is a value that may be.
  sign.sigOf, by the program.
  sign.Of: the envelope of a value, by the program.
-/
import Derived.Test.YtmggmpigpiaagaaGreatDoorReadP
import Derived.Test.YtmggmpigpiaagaaGreatDoorPickD4
import Derived.Test.YtmggmpigpiaagaaGreatDoorSignP
import Derived.Test.YtmggmpigpiaagaaGreatDoorPickL
import Derived.Test.YtmggmpigpiaagaaGreatDoorSignD
import Derived.Test.YtmggmpigpiaagaaGreatDoorSignF
import Derived.Test.YtmggmpigpiaagaaGreatDoorSignX
namespace Go.Proofs.YtmggmpigpiaagaaGreatDoor
section
open Go.RowKit
theorem u8_ofU (n : Nat) (h : n < 256) : (UInt8.ofNat n).toNat = n := by
 exact UInt8.toNat_ofNat_of_lt' (by simpa using h)
theorem next_enc (r : Int) (hr : isRune r) (l : List UInt8) : nextP (encP r ++ l) = (r, ((encP r).length : Int), 0) := by
 obtain ⟨h0, h1, h2⟩ := hr
 obtain ⟨n, rfl⟩ : ∃ n : Nat, r = n := ⟨r.toNat, by omega⟩
 unfold encP
 rw [Int.toNat_natCast]
 by_cases a1 : (n : Int) < 128
 · rw [if_pos a1]
   have e1 := u8_ofU n (by omega)
   rw [List.singleton_append, nextP, e1, if_pos (by omega)]
   rfl
 rw [if_neg a1]
 by_cases a2 : (n : Int) < 2048
 · rw [if_pos a2]
   have e1 := u8_ofU (192 + n / 64) (by omega)
   have e2 := u8_ofU (128 + n % 64) (by omega)
   rw [List.cons_append, List.singleton_append, nextP, e1, if_neg (by omega), if_neg (by omega), if_pos (by omega), next2P, e1, e2, if_neg (by omega)]
   simp only [Prod.mk.injEq, List.length_cons, List.length_nil, and_true]
   omega
 rw [if_neg a2]
 by_cases a3 : (n : Int) < 65536
 · rw [if_pos a3]
   have e1 := u8_ofU (224 + n / 4096) (by omega)
   have e2 := u8_ofU (128 + n / 64 % 64) (by omega)
   have e3 := u8_ofU (128 + n % 64) (by omega)
   rw [List.cons_append, List.cons_append, List.singleton_append, nextP, e1, if_neg (by omega), if_neg (by omega), if_neg (by omega), if_pos (by omega), next3P, if_pos (by unfold ok3; rw [e1, e2]; omega), next3Q, e1, e2, e3, if_neg (by omega)]
   simp only [Prod.mk.injEq, List.length_cons, List.length_nil, and_true]
   omega
 · rw [if_neg a3]
   have e1 := u8_ofU (240 + n / 262144) (by omega)
   have e2 := u8_ofU (128 + n / 4096 % 64) (by omega)
   have e3 := u8_ofU (128 + n / 64 % 64) (by omega)
   have e4 := u8_ofU (128 + n % 64) (by omega)
   rw [List.cons_append, List.cons_append, List.cons_append, List.singleton_append, nextP, e1, if_neg (by omega), if_neg (by omega), if_neg (by omega), if_neg (by omega), next4P, if_pos (by unfold ok4; rw [e1, e2]; omega), next4Q, e3, if_neg (by omega), next4R, e1, e2, e3, e4, if_neg (by omega)]
   simp only [Prod.mk.injEq, List.length_cons, List.length_nil, and_true]
   omega
theorem strGo_runes : ∀ (f : Nat) (l out : List UInt8), (strGo f l out).2.2 = 0 → ∃ rs : List Int, (∀ r ∈ rs, isRune r) ∧ (strGo f l out).1 = out ++ rs.flatMap encP
 | 0, _, _, h => by simp [strGo] at h
 | f + 1, [], _, h => by simp [strGo] at h
 | f + 1, c :: r, out, h => by
   rw [strGo] at h ⊢
   by_cases h1 : c.toNat = 34
   · rw [if_pos h1]; exact ⟨[], by simp, by simp⟩
   rw [if_neg h1] at h ⊢
   by_cases h2 : (itemP (c :: r)).2.2 ≠ 0
   · rw [if_pos h2] at h; exact absurd h h2
   rw [if_neg h2] at h ⊢
   by_cases h3 : 4096 < out.length + (encP (itemP (c :: r)).1).length
   · rw [if_pos h3] at h; simp at h
   rw [if_neg h3] at h ⊢
   by_cases h4 : (strGo f ((c :: r).drop (itemP (c :: r)).2.1) (out ++ encP (itemP (c :: r)).1)).2.2 ≠ 0
   · rw [if_pos h4] at h; exact absurd h h4
   rw [if_neg h4]
   obtain ⟨rs, hrs, he⟩ := strGo_runes f _ _ (Classical.not_not.1 h4)
   obtain ⟨hr, -⟩ := itemP_ok (c :: r) (Classical.not_not.1 h2)
   refine ⟨(itemP (c :: r)).1 :: rs, fun x hx => ?_, ?_⟩
   · rw [List.mem_cons] at hx
     rcases hx with rfl | hx
     · exact hr
     · exact hrs x hx
   · show (strGo f _ _).1 = _
     rw [he, List.append_assoc, List.flatMap_cons]
theorem lenGo_runes : ∀ (rs : List Int), (∀ r ∈ rs, isRune r) → ∀ f, lenGo (rs.flatMap encP) f = true
 | [], _, f => by cases f <;> simp [lenGo]
 | r :: rs, h, 0 => by simp [lenGo]
 | r :: rs, h, f + 1 => by
   have hr := h r (by simp)
   rw [List.flatMap_cons, lenGo, next_enc r hr]
   have hne : encP r ++ rs.flatMap encP ≠ [] := by
     have := (encP_len r).1
     intro e
     have e2 := congrArg List.length e
     rw [List.length_append, List.length_nil] at e2
     omega
   rw [if_neg hne, if_pos rfl]
   show lenGo (List.drop ((encP r).length : Int).toNat _) f = true
   rw [Int.toNat_natCast, List.drop_left]
   exact lenGo_runes rs (fun x hx => h x (by simp [hx])) f
theorem text_writ {l : List UInt8} (h : (tokP l).e = 0) : writ ⟨(tokP l).t.toArray⟩ = true := by
 have hsz := (tokP_b l).2.2
 have hut : ∃ rs : List Int, (∀ r ∈ rs, isRune r) ∧ (tokP l).t = rs.flatMap encP := by
   match l with
   | [] => exact ⟨[], by simp, by simp [tokP]⟩
   | c :: r =>
     rw [tokP] at h ⊢
     by_cases h1 : signOf c ≠ 0
     · rw [if_pos h1]; exact ⟨[], by simp, by simp⟩
     rw [if_neg h1] at h ⊢
     by_cases h2 : c.toNat = 34
     · rw [if_pos h2] at h ⊢
       unfold textP at h ⊢
       by_cases h3 : (strP r).2.2 ≠ 0
       · rw [if_pos h3]; exact ⟨[], by simp, by simp [Tok.bad]⟩
       · rw [if_neg h3]
         obtain ⟨rs, h4, h5⟩ := strGo_runes _ r [] (Classical.not_not.1 h3)
         exact ⟨rs, h4, by rw [List.nil_append] at h5; exact h5⟩
     rw [if_neg h2] at h ⊢
     by_cases h3 : numFirst c = true
     · rw [if_pos h3] at h ⊢
       rw [(numP_ok h).2.2.1]
       exact ⟨[], by simp, by simp⟩
     · rw [if_neg h3] at h ⊢
       rw [(wordP_ok h).2.2.2.1]
       exact ⟨[], by simp, by simp⟩
 obtain ⟨rs, hrs, he⟩ := hut
 unfold writ
 rw [Bool.and_eq_true, decide_eq_true_eq, utfOK_len]
 exact ⟨hsz, by show lenGo (tokP l).t _ = true; rw [he]; exact lenGo_runes rs hrs _⟩
end

section
set_option maxRecDepth 100000
open Go.RowKit
theorem ascB_of {l : List ByteArray} (h : l.Pairwise (fun a b => Op.bytesLess a.data.toList b.data.toList = true)) : ascB l = true := by
 unfold ascB
 rw [List.all_eq_true]
 intro i hi
 have hi' : i < l.length - 1 := List.mem_range.1 hi
 have h2 := List.pairwise_iff_getElem.1 h i (i + 1) (by omega) (by omega) (by omega)
 unfold lessAt
 rw [toList_data, toList_data, List.getD_eq_getElem?_getD, List.getD_eq_getElem?_getD, List.getElem?_eq_getElem (by omega), List.getElem?_eq_getElem (by omega)]
 exact h2
theorem countL_perm {l l' : List JV} (h : l.Perm l') : countL l = countL l' := by
 induction h with
 | nil => rfl
 | cons x _ ih => rw [countL, countL, ih]
 | swap x y l => simp only [countL]; omega
 | trans _ _ a b => exact a.trans b
theorem depthL_le {l : List JV} {d : Nat} (h : ∀ x ∈ l, depthV x ≤ d) : depthL l ≤ d := by
 induction l with
 | nil => rw [depthL]; omega
 | cons x r ih =>
   rw [depthL]
   have h1 := h x (by simp)
   have h2 := ih (fun y hy => h y (by simp [hy]))
   omega
theorem goodVs_of {l : List JV} (h : ∀ x ∈ l, goodV x = true) : goodVs l = true := by
 induction l with
 | nil => rfl
 | cons x r ih => rw [goodVs, h x (by simp), ih (fun y hy => h y (by simp [hy]))]; rfl
theorem countL_snoc (l : List JV) (x : JV) : countL (l ++ [x]) = countL l + countV x := by
 induction l with
 | nil => simp [countL]
 | cons y r ih => rw [List.cons_append, countL, countL, ih]; omega
def GoodTk (ms : List Lx) : Prop := ∀ m, .tok m ∈ ms → writ m.name = true
theorem GoodTk.drop {a b : List Lx} (h : GoodTk (a ++ b)) : GoodTk b := fun m hm => h m (by simp [hm])
theorem GoodTk.tail {x : Lx} {b : List Lx} (h : GoodTk (x :: b)) : GoodTk b := fun m hm => h m (by simp [hm])
theorem lexes_good : ∀ (n : Nat) (l : List UInt8) (p : Nat), l.length ≤ n → GoodTk (lexes l p)
 | n, l, p, hn => by
   rw [lexes_step]
   by_cases h1 : (tokB l).e ≠ 0
   · rw [if_pos h1]; intro m hm; simp at hm
   rw [if_neg h1]
   have h0 : (tokB l).e = 0 := Classical.not_not.1 h1
   intro m hm
   rw [List.mem_cons] at hm
   rcases hm with hm | hm
   · cases hm
     exact text_writ h0
   · by_cases h2 : (tokB l).k = 11
     · rw [if_pos h2] at hm; simp at hm
     · rw [if_neg h2] at hm
       have hne : l.drop (blanks l) ≠ [] := fun e => h2 ((tok_end h0).2 e)
       obtain ⟨k1, k2, _⟩ := tokP_ok hne h0
       have j1 : 1 ≤ (tokB l).len := k1
       have j2 : (tokB l).len ≤ l.length - blanks l := by rw [List.length_drop] at k2; exact k2
       match n, hn with
       | 0, hn => omega
       | n + 1, hn => exact lexes_good n _ _ (by rw [List.length_drop]; omega) m hm
def ValGood (d : Nat) (val : Mk → List Lx → Nat → PR JV) : Prop := ∀ m ms c V ms' c', writ m.name = true → GoodTk ms → val m ms c = .ok V ms' c' → goodV V = true ∧ depthV V ≤ d ∧ c + countV V = c'
theorem list_good {acc : List JV} {d : Nat} (h : ∀ x ∈ acc, goodV x = true ∧ depthV x ≤ d) : goodV (listV acc) = true ∧ depthV (listV acc) ≤ d + 1 ∧ countV (listV acc) = 1 + countL acc := by
 unfold listV
 refine ⟨?_, ?_, by rw [countV]⟩
 · rw [goodV, if_pos (Or.inl rfl), goodVs_of (fun x hx => (h x hx).1), Bool.and_true]
   unfold properB
   simp
 · rw [depthV, if_pos (Or.inl rfl)]
   have := depthL_le (fun x hx => (h x hx).2)
   omega
theorem items_good {d : Nat} {val : Mk → List Lx → Nat → PR JV} (hv : ValGood d val) (ht : ValTakes val) : ∀ (f : Nat) (m : Mk) (ms : List Lx) (c : Nat) (acc : List JV) (V : JV) (ms' : List Lx) (c' : Nat), writ m.name = true → GoodTk ms → (∀ x ∈ acc, goodV x = true ∧ depthV x ≤ d) → itemsP val f m ms c acc = .ok V ms' c' →
   goodV V = true ∧ depthV V ≤ d + 1 ∧ countV V + c = 1 + countL acc + c'
 | 0, _, _, _, _, _, _, _, _, _, _, h => by simp [itemsP] at h
 | f + 1, m, ms, c, acc, V, ms', c', hm, hg, ha, h => by
   rw [itemsP] at h
   cases hval : val m ms c with
   | bad p e => rw [hval] at h; simp at h
   | ok u ms1 c1 =>
     rw [hval] at h
     obtain ⟨g1, g2, g3⟩ := hv m ms c u ms1 c1 hm hg hval
     obtain ⟨pre, -, hp, -⟩ := ht m ms c u ms1 c1 hval
     have hg1 : GoodTk ms1 := by rw [hp] at hg; exact hg.drop
     have ha' : ∀ x ∈ acc ++ [u], goodV x = true ∧ depthV x ≤ d := fun x hx => by
       rw [List.mem_append] at hx
       rcases hx with hx | hx
       · exact ha x hx
       · simp only [List.mem_singleton] at hx; subst hx; exact ⟨g1, g2⟩
     simp only [moreP] at h
     obtain ⟨m2, r2, ee, h'⟩ := nextL_ok h
     subst ee
     by_cases k4 : m2.k = 4
     · rw [if_pos k4] at h'
       simp only [PR.ok.injEq] at h'
       obtain ⟨rfl, rfl, rfl⟩ := h'
       obtain ⟨l1, l2, l3⟩ := list_good ha'
       exact ⟨l1, l2, by rw [l3, countL_snoc]; omega⟩
     · rw [if_neg k4] at h'
       by_cases k5 : m2.k = 5
       · rw [if_pos k5] at h'
         obtain ⟨m3, r3, ee3, h''⟩ := nextL_ok h'
         subst ee3
         obtain ⟨l1, l2, l3⟩ := items_good hv ht f m3 r3 c1 _ V ms' c' (hg1 m3 (by simp)) hg1.tail.tail ha' h''
         exact ⟨l1, l2, by rw [countL_snoc] at l3; omega⟩
       · rw [if_neg k5] at h'
         simp at h'
theorem obj_good {acc : List Mem} {d : Nat} (h : ∀ x ∈ acc, goodV x.2 = true ∧ depthV x.2 ≤ d) (hn : ∀ x ∈ acc, writ x.1 = true) (hd : Apart acc) : goodV (objV acc) = true ∧ depthV (objV acc) ≤ d + 1 ∧ countV (objV acc) = 1 + countL (acc.map Prod.snd) := by
 have hp := sortM_perm acc
 have hi : ∀ x ∈ (sortM acc).map Prod.snd, goodV x = true ∧ depthV x ≤ d := fun x hx => by
   obtain ⟨y, hy, rfl⟩ := List.mem_map.1 hx
   exact h y (hp.mem_iff.1 hy)
 have hap : Apart (sortM acc) := (List.Perm.pairwise_iff (fun hh => Ne.symm hh) hp).2 hd
 have hst : ((sortM acc).map Prod.fst).Pairwise (fun a b => Op.bytesLess a.data.toList b.data.toList = true) := by
   rw [List.pairwise_map]
   refine ((sortM_sorted acc).and hap).imp fun {a b} hab => ?_
   obtain ⟨h1, h2⟩ := hab
   unfold MemLe at h1
   rw [nmLt_eq] at h1
   cases h3 : Op.bytesLess a.1.data.toList b.1.data.toList with
   | true => rfl
   | false => exact absurd (bl_total _ _ h3 h1) h2
 unfold objV
 refine ⟨?_, ?_, ?_⟩
 · rw [goodV, if_pos (Or.inr rfl), goodVs_of (fun x hx => (hi x hx).1), Bool.and_true]
   have e1 : ascB ((sortM acc).map Prod.fst) = true := ascB_of hst
   have e2 : ((sortM acc).map Prod.fst).all writ = true := by
     rw [List.all_eq_true]
     intro x hx
     obtain ⟨y, hy, rfl⟩ := List.mem_map.1 hx
     exact hn y (hp.mem_iff.1 hy)
   unfold properB
   simp [e1, e2]
 · rw [depthV, if_pos (Or.inr rfl)]
   have := depthL_le (fun x hx => (hi x hx).2)
   omega
 · rw [countV, countL_perm (hp.map Prod.snd)]
theorem members_good {d : Nat} {val : Mk → List Lx → Nat → PR JV} (hv : ValGood d val) (ht : ValTakes val) : ∀ (f : Nat) (m : Mk) (ms : List Lx) (c : Nat) (acc : List Mem) (V : JV) (ms' : List Lx) (c' : Nat), writ m.name = true → GoodTk ms → (∀ x ∈ acc, goodV x.2 = true ∧ depthV x.2 ≤ d) → (∀ x ∈ acc, writ x.1 = true) → Apart acc → membersP val f m ms c acc = .ok V ms' c' →
   goodV V = true ∧ depthV V ≤ d + 1 ∧ countV V + c = 1 + countL (acc.map Prod.snd) + c'
 | 0, _, _, _, _, _, _, _, _, _, _, _, _, h => by simp [membersP] at h
 | f + 1, m, ms, c, acc, V, ms', c', hm, hg, ha, hn, hd, h => by
   rw [membersP] at h
   by_cases h10 : m.k ≠ 10
   · rw [if_pos h10] at h; simp at h
   rw [if_neg h10] at h
   by_cases hnn : hasN acc m.name = true
   · rw [if_pos hnn] at h; simp at h
   rw [if_neg hnn] at h
   obtain ⟨m2, r2, ee, h'⟩ := nextL_ok h
   subst ee
   by_cases h6 : m2.k ≠ 6
   · rw [if_pos h6] at h'; simp at h'
   rw [if_neg h6] at h'
   obtain ⟨m3, r3, ee3, h''⟩ := nextL_ok h'
   subst ee3
   cases hval : val m3 r3 c with
   | bad p e => rw [hval] at h''; simp at h''
   | ok u ms1 c1 =>
     rw [hval] at h''
     obtain ⟨g1, g2, g3⟩ := hv m3 r3 c u ms1 c1 (hg m3 (by simp)) hg.tail.tail hval
     obtain ⟨pre, -, hp, -⟩ := ht m3 r3 c u ms1 c1 hval
     have hg1 : GoodTk ms1 := by have := hg.tail.tail; rw [hp] at this; exact this.drop
     have ha' : ∀ x ∈ acc ++ [(m.name, u)], goodV x.2 = true ∧ depthV x.2 ≤ d := fun x hx => by
       rw [List.mem_append] at hx
       rcases hx with hx | hx
       · exact ha x hx
       · simp only [List.mem_singleton] at hx; subst hx; exact ⟨g1, g2⟩
     have hn' : ∀ x ∈ acc ++ [(m.name, u)], writ x.1 = true := fun x hx => by
       rw [List.mem_append] at hx
       rcases hx with hx | hx
       · exact hn x hx
       · simp only [List.mem_singleton] at hx; subst hx; exact hm
     have hd' : Apart (acc ++ [(m.name, u)]) := apart_snoc hd (by simpa using hnn)
     have hcs : countL ((acc ++ [(m.name, u)]).map Prod.snd) = countL (acc.map Prod.snd) + countV u := by rw [List.map_append]; exact countL_snoc _ _
     simp only [moreP] at h''
     obtain ⟨m4, r4, ee4, h4⟩ := nextL_ok h''
     subst ee4
     by_cases k2 : m4.k = 2
     · rw [if_pos k2] at h4
       simp only [PR.ok.injEq] at h4
       obtain ⟨rfl, rfl, rfl⟩ := h4
       obtain ⟨l1, l2, l3⟩ := obj_good ha' hn' hd'
       exact ⟨l1, l2, by rw [l3, hcs]; omega⟩
     · rw [if_neg k2] at h4
       by_cases k5 : m4.k = 5
       · rw [if_pos k5] at h4
         obtain ⟨m5, r5, ee5, h5⟩ := nextL_ok h4
         subst ee5
         obtain ⟨l1, l2, l3⟩ := members_good hv ht f m5 r5 c1 _ V ms' c' (hg1 m5 (by simp)) hg1.tail.tail ha' hn' hd' h5
         exact ⟨l1, l2, by rw [hcs] at l3; omega⟩
       · rw [if_neg k5] at h4
         simp at h4
theorem leaf_good {m : Mk} (_hb : ¬ begV m = false) (hm : writ m.name = true) (_h3 : m.k ≠ 1 ∧ m.k ≠ 3) (d : Nat) : goodV (leafV m) = true ∧ depthV (leafV m) ≤ d ∧ countV (leafV m) = 1 := by
 unfold leafV
 by_cases h7 : m.k = 7
 · rw [if_pos h7]
   refine ⟨?_, by rw [depthV]; simp, by rw [countV, countL]⟩
   rw [goodV, properB]; simp
 rw [if_neg h7]
 by_cases h8 : m.k = 8
 · rw [if_pos h8]
   refine ⟨?_, by rw [depthV]; simp, by rw [countV, countL]⟩
   rw [goodV, properB]; simp
 rw [if_neg h8]
 by_cases h9 : m.k = 9
 · rw [if_pos h9]
   refine ⟨?_, by rw [depthV]; simp, by rw [countV, countL]⟩
   rw [goodV, properB]; simp
 · rw [if_neg h9]
   refine ⟨?_, by rw [depthV]; simp, by rw [countV, countL]⟩
   rw [goodV, properB, hm]; simp
theorem val_good : ∀ d, ValGood d (valP d)
 | d, m, ms, c, V, ms', c', hm, hg, h => by
   unfold valP at h
   by_cases h1 : begV m = false
   · rw [if_pos h1] at h; simp at h
   rw [if_neg h1] at h
   by_cases h2 : 8192 ≤ c
   · rw [if_pos h2] at h; simp at h
   rw [if_neg h2] at h
   by_cases h3 : m.k ≠ 1 ∧ m.k ≠ 3
   · rw [if_pos h3] at h
     simp only [PR.ok.injEq] at h
     obtain ⟨rfl, rfl, rfl⟩ := h
     obtain ⟨a, b, e⟩ := leaf_good h1 hm h3 d
     exact ⟨a, b, by rw [e]⟩
   rw [if_neg h3] at h
   revert h
   match d with
   | 0 => intro h; simp at h
   | d + 1 =>
     intro h
     dsimp only at h
     by_cases h4 : m.k = 3
     · rw [if_pos h4] at h
       unfold listP at h
       obtain ⟨m2, r2, ee, h'⟩ := nextL_ok h
       subst ee
       by_cases g : m2.k = 4
       · rw [if_pos g] at h'
         simp only [PR.ok.injEq] at h'
         obtain ⟨rfl, rfl, rfl⟩ := h'
         obtain ⟨a, b, e⟩ := list_good (acc := []) (d := d) (by simp)
         exact ⟨a, b, by rw [e, countL]⟩
       · rw [if_neg g] at h'
         obtain ⟨a, b, e⟩ := items_good (val_good d) (val_takes d) _ _ _ _ _ _ _ _ (hg m2 (by simp)) hg.tail (by simp) h'
         rw [countL] at e
         exact ⟨a, b, by omega⟩
     · rw [if_neg h4] at h
       unfold objP at h
       obtain ⟨m2, r2, ee, h'⟩ := nextL_ok h
       subst ee
       by_cases g : m2.k = 2
       · rw [if_pos g] at h'
         simp only [PR.ok.injEq] at h'
         obtain ⟨rfl, rfl, rfl⟩ := h'
         obtain ⟨a, b, e⟩ := obj_good (acc := []) (d := d) (by simp) (by simp) List.Pairwise.nil
         exact ⟨a, b, by rw [e, List.map_nil, countL]⟩
       · rw [if_neg g] at h'
         obtain ⟨a, b, e⟩ := members_good (val_good d) (val_takes d) _ _ _ _ _ _ _ _ (hg m2 (by simp)) hg.tail (by simp) (by simp) List.Pairwise.nil h'
         rw [List.map_nil, countL] at e
         exact ⟨a, b, by omega⟩
theorem writ_size {s : ByteArray} (h : writ s = true) : s.size ≤ 4096 := by
 unfold writ at h
 rw [Bool.and_eq_true, decide_eq_true_eq] at h
 exact h.1
theorem wtN_le {l : List ByteArray} (h : l.all writ = true) : wtN l ≤ 4098 * l.length := by
 induction l with
 | nil => simp [wtN]
 | cons s r ih =>
   rw [List.all_cons, Bool.and_eq_true] at h
   have h1 := writ_size h.1
   have h2 := ih h.2
   unfold wtN at h2 ⊢
   rw [List.map_cons, List.sum_cons, List.length_cons]
   omega
theorem proper_sizes {k n : Int} {t : ByteArray} {names : List ByteArray} {items : List JV} (h : properB (.mk k n t names items) = true) : t.size ≤ 4096 ∧ wtN names ≤ 4098 * names.length ∧ names.length ≤ items.length := by
 have h0 := h
 rcases proper_parts h with ⟨-, -, h2, h3, -⟩ | ⟨-, h2, h3, -⟩ | ⟨h1, -, h3, -⟩ | ⟨-, -, h2, h3⟩ | ⟨h1, -, h2, h3⟩
 · have h3' : names = [] := h3
   have h2' : t.data.toList.length = 0 := by rw [show t.data.toList = [] from h2]; rfl
   subst h3'
   rw [size_len] at h2'
   exact ⟨by omega, by simp [wtN], by simp⟩
 · have h3' : names = [] := h3
   have h2' : t.data.toList.length = 0 := by rw [show t.data.toList = [] from h2]; rfl
   subst h3'
   rw [size_len] at h2'
   exact ⟨by omega, by simp [wtN], by simp⟩
 · have h3' : names = [] := h3
   have h1' : k = 3 := h1
   subst h3' h1'
   refine ⟨?_, by simp [wtN], by simp⟩
   unfold properB at h0
   simp at h0
   exact writ_size h0.2.2
 · have h3' : names = [] := h3
   have h2' : t.data.toList.length = 0 := by rw [show t.data.toList = [] from h2]; rfl
   subst h3'
   rw [size_len] at h2'
   exact ⟨by omega, by simp [wtN], by simp⟩
 · have h1' : k = 5 := h1
   have h3' : names.length = items.length := h3
   have h2' : t.data.toList.length = 0 := by rw [show t.data.toList = [] from h2]; rfl
   subst h1'
   rw [size_len] at h2'
   refine ⟨by omega, wtN_le ?_, by omega⟩
   unfold properB at h0
   simp at h0
   rw [List.all_eq_true]
   exact h0.2.2
theorem wt_arith (a b c d l : Nat) (h1 : a + 4098 ≤ 8200 * b) (h2 : c + 4098 * l ≤ 8200 * d) : a + c + 4098 * (l + 1) ≤ 8200 * (b + d) := by
 have e1 : 4098 * (l + 1) = 4098 * l + 4098 := Nat.mul_succ _ _
 have e2 : 8200 * (b + d) = 8200 * b + 8200 * d := Nat.mul_add _ _ _
 rw [e1, e2]
 omega
theorem wt_arith2 (t n w l b q : Nat) (h1 : t ≤ 4096) (h2 : n ≤ 4098 * q) (h3 : q ≤ l) (h4 : w + 4098 * l ≤ 8200 * b) : 4 + t + n + w + 4098 ≤ 8200 * (1 + b) := by
 have e1 : 4098 * q ≤ 4098 * l := Nat.mul_le_mul_left _ h3
 have e2 : 8200 * (1 + b) = 8200 + 8200 * b := by rw [Nat.mul_add]
 rw [e2]
 omega
mutual
theorem wt_good : ∀ (V : JV), goodV V = true → wt V + 4098 ≤ 8200 * countV V
 | .mk k n t names items, h => by
   rw [goodV, Bool.and_eq_true] at h
   obtain ⟨hp, hg⟩ := h
   obtain ⟨h1, h2, h3⟩ := proper_sizes hp
   have hl : wtL items + 4098 * items.length ≤ 8200 * countL items := by
     by_cases hk : k = 4 ∨ k = 5
     · rw [if_pos hk] at hg
       exact wtL_good items hg
     · have hi : items = [] := proper_leaf hp (fun e => hk (Or.inl e)) (fun e => hk (Or.inr e))
       subst hi
       simp [wtL, countL]
   rw [wt_eq, countV]
   exact wt_arith2 _ _ _ _ _ _ h1 h2 h3 hl
theorem wtL_good : ∀ (l : List JV), goodVs l = true → wtL l + 4098 * l.length ≤ 8200 * countL l
 | [], _ => by rw [wtL, countL, List.length_nil]; exact Nat.zero_le _
 | x :: r, h => by
   rw [goodVs, Bool.and_eq_true] at h
   have h1 := wt_good x h.1
   have h2 := wtL_good r h.2
   rw [wtL, countL, List.length_cons]
   exact wt_arith _ _ _ _ _ h1 h2
end
theorem wt_may {V : JV} (h : mayB V = true) : wt V ≤ 1000000000 := by
 obtain ⟨a, -, b⟩ := (mayB_iff V).1 h
 have := wt_good V a
 omega
theorem read_may {s : List UInt8} {V : JV} {ms : List Lx} {c : Nat} (h : readV s = .ok V ms c) : mayB V = true ∧ countV V = c := by
 obtain ⟨-, m0, pre, hlex, ht, hp⟩ := readV_ok h
 have hg := lexes_good s.length s 0 (Nat.le_refl _)
 rw [hlex] at hg
 have h1 := hp [.tok ⟨11, s.length, s.length, 0, []⟩]
 obtain ⟨a, b, e⟩ := val_good 12 m0 _ 0 V _ c (hg m0 (by simp)) hg.tail h1
 obtain ⟨-, hc⟩ := val_count 12 _ _ _ _ _ _ h1
 exact ⟨(mayB_iff V).2 ⟨a, b, by omega⟩, by omega⟩
end

section
set_option maxRecDepth 100000
open Go.RowKit
def SigPostP (V : JV) (w : World) (e : Ending) (w' : World) : Prop :=
 Below w.heap.size w w' ∧ ∃ a b er, e = .returned (.tuple #[.agg #[.string a, .string b], .int .i64 er]) ∧ ((er = 0 ∧ sigV V = .ok (a, b)) ∨ (er ≠ 0 ∧ sigV V = .bad er))
set_option maxHeartbeats 8000000 in
theorem sigOf_any (V : JV) (x : VC) (w : World) (h : ValAt (pureW w) V x.val) (hm : mayB V = true) :
   Calls Tryz.prog 30 #[x.val] w (SigPostP V w) := by
 have hpf := fun W (hb : Below w.heap.size w W) => pOf_any V x W (h.imp (pure_keep hb)) (may_fit hm) (wt_may hm)
 unfold POfPost at hpf
 obtain ⟨s0, hs0⟩ : ∃ s, pickQ V = s := ⟨_, rfl⟩
 obtain ⟨ta, s1, hs1⟩ : ∃ t s, textQ V tKey s0 = (t, s) := ⟨_, _, rfl⟩
 obtain ⟨tb, s2, hs2⟩ : ∃ t s, textQ V tSig s1 = (t, s) := ⟨_, _, rfl⟩
 have hA0 : ∀ A, s0 = .ok A → A.length ≤ 900 := fun A hA => by rw [(pick_ok (hs0.trans hA)).2]; simp
 have hA1 : ∀ A, s1 = .ok A → A.length ≤ 900 := fun A hA => by
   obtain ⟨B, h1, h2⟩ := text_ok hs1 hA
   rw [h2, (pick_ok (hs0.trans h1)).2]; simp
 have hA2 : ∀ A, s2 = .ok A → A.length ≤ 1000 := fun A hA => by
   obtain ⟨B, h1, h2⟩ := text_ok hs2 hA
   have := hA1 B h1
   rw [h2]; simp; omega
 have hza : ta.size ≤ 4096 := text_short hm (fun A hA => (pick_ok (hs0.trans hA)).1) hs1
 have hzb : tb.size ≤ 4096 := text_short hm (fun A hA => by obtain ⟨B, h1, h2⟩ := text_ok hs1 hA; exact (pick_ok (hs0.trans h1)).1) hs2
 have hsig : sigV V = if doneQ V s2 ≠ 0 then .bad (doneQ V s2) else if sigB ta tb = true then .ok (ta, tb) else .bad 3 := by
   unfold sigV
   simp only [hs0, hs1, hs2]
 rw [hs0] at hpf
 have HOF := Lib.hid hpf
 have HA0 := Lib.hid hA0
 have HA1 := Lib.hid hA1
 have HA2 := Lib.hid hA2
 have HS1 := Lib.hid hs1
 have HS2 := Lib.hid hs2
 have HSIG := Lib.hid hsig
 have HT1 : Hid (tKey.size ≤ maxLen) := by show _ ≤ _; decide
 have HT2 : Hid (tSig.size ≤ maxLen) := by show _ ≤ _; decide
 have HSB := Lib.hid (fun W => maySig_any ta tb W (by omega) (by omega))
 obtain ⟨xk, xn, xt, xa, xl, xc, xb, xm, xe⟩ := x
 obtain ⟨W, hW⟩ : ∃ W, W = (w.alloc (.cells #[.int .u8 xk, .int .i64 xn, .string xt, .slice xa xl xc, .slice xb xm xe] 26)).alloc (.cells #[.string ⟨#[]⟩, .string ⟨#[]⟩] 43) := ⟨_, rfl⟩
 have hbW : Below w.heap.size w W := by rw [hW]; exact bel_alloc (bel_alloc (Below.refl _ _) _) _
 have HRB : Hid (BlkAt W (w.heap.size + 1) 43 #[.string ⟨#[]⟩, .string ⟨#[]⟩]) := by
   rw [hW]
   have := blkAt_new (w.alloc (.cells #[.int .u8 xk, .int .i64 xn, .string xt, .slice xa xl xc, .slice xb xm xe] 26)) #[.string ⟨#[]⟩, .string ⟨#[]⟩] 43
   rwa [size_al] at this
 have HBW := Lib.hid hbW
 have HW := Lib.hid hW
 clear h hm hs0 hs1 hs2 hA0 hA1 hA2 hsig hza hzb hW hbW hpf
 go_enter Tryz.func30, Tryz.ntmps30
 simp only [VC.val] at HOF ⊢
 go_wp2_with fail
 rw [← HW.out]
 refine (HOF.out _ HBW.out).mono ?_
 rintro e w2 ⟨o, B, Q, w0, x', rfl, hb2, hbw0, how, hBw, ho2, hB2, hd2⟩
 have hws := HBW.out.size
 have hw0s := hd2.bel.size
 have HB0 : Hid (∀ Y, Below w0.heap.size w0 Y → Below w.heap.size w Y) := fun Y hY => below_more (below_more HBW.out hbw0) hY
 have HR2 := Lib.hid (BlkAt.keep HRB.out hb2)
 have hrl := BlkAt.lt HRB.out
 have HT := Lib.hid (pText_any hd2 tKey HA0.out HT1.out ta s1 HS1)
 clear HOF HW HRB hb2 hbw0 hd2
 go_wp2_with fail
 refine HT.out.mono ?_
 rintro e w3 ⟨rfl, hd3, hsep3⟩
 have HR3 : Hid (BlkAt w3 (w.heap.size + 1) 43 #[.string ⟨#[]⟩, .string ⟨#[]⟩]) := (hsep3.block _ (by omega) (by omega) (fun e => by have := Option.some.inj e; omega)).trans HR2.out
 have hs3 := hsep3.size
 have HT2b := Lib.hid (pText_any hd3 tSig HA1.out HT2.out tb s2 HS2)
 clear hd3 hsep3 HR2 HT
 go_wp2_with fail
 refine HT2b.out.mono ?_
 rintro e w4 ⟨rfl, hd4, hsep4⟩
 have HR4 : Hid (BlkAt w4 (w.heap.size + 1) 43 #[.string ⟨#[]⟩, .string ⟨#[]⟩]) := (hsep4.block _ (by omega) (by omega) (fun e => by have := Option.some.inj e; omega)).trans HR3.out
 have hs4 := hsep4.size
 have hb5 : Below w4.heap.size w4 (w4.alloc (.cells #[.string ta, .string tb] 43)) := bel_alloc (Below.refl _ _) _
 have HD5 := Lib.hid (hd4.keep hb5)
 have HX5 : Hid (BlkAt (w4.alloc (.cells #[.string ta, .string tb] 43)) w4.heap.size 43 #[.string ta, .string tb]) := blkAt_new w4 _ _
 have HR5 := Lib.hid (BlkAt.keep HR4.out hb5)
 have HDN := Lib.hid (pDone_any HD5.out HA2.out)
 clear hd4 hsep4 HR3 HR4 HT2b hb5
 go_wp2_with fail
 refine HDN.out.mono ?_
 rintro e w6 ⟨rfl, hb6⟩
 have HX6 := Lib.hid (BlkAt.keep HX5.out hb6)
 have HR6 := Lib.hid (BlkAt.keep HR5.out hb6)
 have HB6 : Hid (Below w.heap.size w w6) := below_more (HB0.out _ HD5.out.bel) hb6
 obtain ⟨b, hb⟩ : ∃ b, w4.heap.size = b := ⟨_, rfl⟩
 rw [hb] at HX6 ⊢
 have hrb : ¬ w.heap.size + 1 = b := by omega
 have hbr : ¬ b = w.heap.size + 1 := by omega
 obtain ⟨dq, hdq⟩ : ∃ q, doneQ V s2 = q := ⟨_, rfl⟩
 rw [hdq] at HSIG ⊢
 clear HD5 HX5 HR5 HDN hb6 hdq HB0 hb
 obtain ⟨x0, x1, xf⟩ := b2 HX6.out
 obtain ⟨r0, r1, rf⟩ := b2 HR6.out
 by_cases hd : dq = 0
 · subst hd
   have hs1 := HSIG.out
   rw [if_neg (by simp)] at hs1
   cases hsb : sigB ta tb with
   | true =>
     rw [hsb] at HSB
     rw [hsb, if_pos rfl] at hs1
     have HSG := Lib.hid hs1
     clear HSIG hs1 hsb
     go_wp2_with fail
     refine (HSB.out _).mono ?_
     rintro e w9 ⟨rfl, hb9⟩
     obtain ⟨x0, x1, xf⟩ := b2 (BlkAt.keep HX6.out hb9)
     obtain ⟨r0, r1, rf⟩ := b2 (BlkAt.keep HR6.out hb9)
     have HB9 := Lib.hid (below_more HB6.out hb9)
     clear hb9 HB6
     go_wp2_with fail
     refine bodyPost_ret (v := .tuple #[.agg #[.string ta, .string tb], .int .i64 0]) (by simp [results, Tryz.results30, go_sem, r0, r1]) rfl ⟨bel_set (bel_set HB9.out (Nat.le_succ _) _) (Nat.le_succ _) _, ta, tb, 0, rfl, Or.inl ⟨rfl, HSG.out⟩⟩
   | false =>
     rw [hsb] at HSB
     rw [hsb, if_neg (by decide)] at hs1
     have HSG := Lib.hid hs1
     clear HSIG hs1 hsb
     go_wp2_with fail
     refine (HSB.out _).mono ?_
     rintro e w9 ⟨rfl, hb9⟩
     obtain ⟨r0, r1, rf⟩ := b2 (BlkAt.keep HR6.out hb9)
     have HB9 := Lib.hid (below_more HB6.out hb9)
     clear hb9 HB6
     go_wp2_with fail
     refine bodyPost_ret (v := .tuple #[.agg #[.string ⟨#[]⟩, .string ⟨#[]⟩], .int .i64 3]) (by simp [results, Tryz.results30, go_sem, r0, r1]) rfl ⟨bel_set (bel_set HB9.out (Nat.le_succ _) _) (Nat.le_succ _) _, ⟨#[]⟩, ⟨#[]⟩, 3, rfl, Or.inr ⟨by decide, HSG.out⟩⟩
 · have hs1 := HSIG.out
   rw [if_pos hd] at hs1
   have hdb : (dq != 0) = true := by rw [bne_iff_ne]; exact hd
   have HSG := Lib.hid hs1
   have HD := Lib.hid hd
   clear HSIG hs1 hd
   go_wp2_with fail
   refine bodyPost_ret (v := .tuple #[.agg #[.string ⟨#[]⟩, .string ⟨#[]⟩], .int .i64 dq]) (by simp [results, Tryz.results30, go_sem, r0, r1]) rfl ⟨bel_set (bel_set HB6.out (Nat.le_succ _) _) (Nat.le_succ _) _, ⟨#[]⟩, ⟨#[]⟩, dq, rfl, Or.inr ⟨HD.out, HSG.out⟩⟩
end

section
set_option maxRecDepth 100000
open Go.RowKit
theorem bel_set6 {a b : World} (h : Below a.heap.size a b) {g : Nat} (hg : a.heap.size ≤ g) (v0 v1 v2 v3 v4 v5 : Value) : Below a.heap.size a ((((((b.setCell ⟨g, 0, none⟩ v0).setCell ⟨g, 1, none⟩ v1).setCell ⟨g, 2, none⟩ v2).setCell ⟨g, 3, none⟩ v3).setCell ⟨g, 4, none⟩ v4).setCell ⟨g, 5, none⟩ v5) :=
 bel_set (bset5 h hg _ _ _ _ _) (p := ⟨g, 5, none⟩) hg v5
theorem obj_ok {V : JV} {nm : ByteArray} {most : Nat} {s s' : PS} {A : List ByteArray} {x : JV} (h : objQ V nm most s = (x, s')) (h' : s' = .ok A) : ∃ B, s = .ok B ∧ A = B ++ [nm] := by
 obtain ⟨R, s1, hR⟩ : ∃ R s1, takeQ V nm 5 s = (R, s1) := ⟨_, _, rfl⟩
 rw [objQ, hR] at h
 cases R with
 | none => cases h; exact take_ok hR h'
 | some y =>
   simp only at h
   split at h
   · cases h; cases h'
   · cases h; exact take_ok hR h'
set_option maxHeartbeats 16000000 in
theorem pEnv_any (V : JV) (x : VC) (w : World) (h : ValAt (pureW w) V x.val) (R : PQ (List SigP × JV)) (hR : Hid (envV V = R)) :
   Calls Tryz.prog 17 #[x.val] w (EnvPost R w) := by
 have hvw : ValAt w V x.val := h.imp fun p u hu => (pure_cell hu).2
 obtain ⟨mb, hmb⟩ : ∃ b, mayB V = b := ⟨_, rfl⟩
 have hmay := fun W (hb : Below w.heap.size w W) => May_any V x.val W (hvw.keep hb)
 rw [hmb] at hmay
 have HMAY := Lib.hid hmay
 obtain ⟨xk, xn, xt, xa, xl, xc, xb, xm, xe⟩ := x
 obtain ⟨W, hW⟩ : ∃ W, W = (w.alloc (.cells #[.int .u8 xk, .int .i64 xn, .string xt, .slice xa xl xc, .slice xb xm xe] 26)).alloc (.cells #[.int .u8 0, .int .i64 0, .string ⟨#[]⟩, .slice none 0 0, .slice none 0 0, .slice none 0 0] 29) := ⟨_, rfl⟩
 have hbW : Below w.heap.size w W := by rw [hW]; exact bel_alloc (bel_alloc (Below.refl _ _) _) _
 have hrb : BlkAt W (w.heap.size + 1) 29 #[.int .u8 0, .int .i64 0, .string ⟨#[]⟩, .slice none 0 0, .slice none 0 0, .slice none 0 0] := by
   rw [hW]
   have := blkAt_new (w.alloc (.cells #[.int .u8 xk, .int .i64 xn, .string xt, .slice xa xl xc, .slice xb xm xe] 26)) #[.int .u8 0, .int .i64 0, .string ⟨#[]⟩, .slice none 0 0, .slice none 0 0, .slice none 0 0] 29
   rwa [size_al] at this
 have hvb : BlkAt W w.heap.size 26 #[.int .u8 xk, .int .i64 xn, .string xt, .slice xa xl xc, .slice xb xm xe] := by
   rw [hW]
   exact (blkAt_new w _ _).alloc _
 have HBW := Lib.hid hbW
 have HRB := Lib.hid hrb
 have HVB := Lib.hid hvb
 have HW := Lib.hid hW
 cases mb with
 | false =>
   have hr := hR.out
   rw [envV, if_pos hmb] at hr
   subst hr
   clear h hvw hR hmb hW hbW hrb hvb hmay
   obtain ⟨a0, a1, a2, a3, a4, af⟩ := b5 HVB.out
   go_enter Tryz.func17, Tryz.ntmps17
   simp only [VC.val] at HMAY ⊢
   go_wp2_with fail
   go_step3
   go_wp2_with fail
   rw [← HW.out]
   refine (HMAY.out _ HBW.out).mono ?_
   rintro e w2 ⟨rfl, hb2⟩
   obtain ⟨r0, r1, r2, r3, r4, r5, rf⟩ := b6' (BlkAt.keep HRB.out hb2)
   have HB2 := Lib.hid (below_more HBW.out hb2)
   clear hb2
   go_wp2_with fail
   rw [Exit.noGoto_ret]
   refine bodyPost_ret (v := .tuple #[.agg #[.int .u8 0, .int .i64 0, .string ⟨#[]⟩, .slice none 0 0, .slice none 0 0, .slice none 0 0], .int .i64 3]) (by simp [results, Tryz.results17, go_sem, r0, r1, r2, r3, r4, r5]) rfl ⟨?_, rfl, by decide⟩
   refine bel_set (bel_set (bel_set (bel_set (bel_set (bel_set HB2.out (Nat.le_succ _) _) (Nat.le_succ _) _) (Nat.le_succ _) _) (Nat.le_succ _) _) (Nat.le_succ _) _) (Nat.le_succ _) _
 | true =>
   have HMB := Lib.hid hmb
   obtain ⟨s0, hs0⟩ : ∃ s, pickQ V = s := ⟨_, rfl⟩
   obtain ⟨l, s1, hs1⟩ : ∃ t s, listQ V tSigs 32 s0 = (t, s) := ⟨_, _, rfl⟩
   obtain ⟨X, s2, hs2⟩ : ∃ t s, objQ V tSigned 8192 (failQ (sigsV l).2 s1) = (t, s) := ⟨_, _, rfl⟩
   have hr : (if doneQ V s2 ≠ 0 then PQ.bad (doneQ V s2) else .ok ((sigsV l).1, X)) = R := by
     have := hR.out
     unfold envV at this
     rw [if_neg (by rw [hmb]; decide)] at this
     simpa only [hs0, hs1, hs2] using this
   have HR := Lib.hid hr
   have HS1 := Lib.hid hs1
   have HS2 := Lib.hid hs2
   have HS0 := Lib.hid hs0
   have hpf := fun W (hb : Below w.heap.size w W) => pOf_any V ⟨xk, xn, xt, xa, xl, xc, xb, xm, xe⟩ W (h.imp (pure_keep hb)) (may_fit hmb) (wt_may hmb)
   unfold POfPost at hpf
   rw [hs0] at hpf
   have HOF := Lib.hid hpf
   obtain ⟨a0, a1, a2, a3, a4, af⟩ := b5 HVB.out
   clear h hvw hR hmb hW hbW hrb hvb hs0 hs1 hs2 hr hpf hmay
   go_enter Tryz.func17, Tryz.ntmps17
   simp only [VC.val] at HMAY HOF ⊢
   go_wp2_with fail
   go_step3
   go_wp2_with fail
   rw [← HW.out]
   refine (HMAY.out _ HBW.out).mono ?_
   rintro e w2 ⟨rfl, hb2⟩
   obtain ⟨a0, a1, a2, a3, a4, af⟩ := b5 (BlkAt.keep HVB.out hb2)
   have HB2 := Lib.hid (below_more HBW.out hb2)
   have HR2 := Lib.hid (BlkAt.keep HRB.out hb2)
   clear hb2 HW HVB HRB HMAY
   go_wp2_with fail
   refine (HOF.out _ HB2.out).mono ?_
   rintro e w3 ⟨o, B, Q, w0, x', rfl, hb3, hbw0, how, hBw, ho3, hB3, hd3⟩
   have hw2s := HB2.out.size
   have hw0s : w0.heap.size ≤ o := hd3.olt.1
   have hsz0 := hd3.bel.size
   have HB0 : Hid (∀ Y, Below w0.heap.size w0 Y → Below w.heap.size w Y) := fun Y hY => below_more (below_more HB2.out hbw0) hY
   have hrl := BlkAt.lt HR2.out
   obtain ⟨w5, hw5⟩ : ∃ y, w3.alloc (.cells #[.int .u8 0, .int .i64 0, .string ⟨#[]⟩, .slice none 0 0, .slice none 0 0, .slice none 0 0] 29) = y := ⟨_, rfl⟩
   obtain ⟨b, hb⟩ : ∃ y, w3.heap.size = y := ⟨_, rfl⟩
   have hb5 : Below w3.heap.size w3 w5 := by rw [← hw5]; exact bel_alloc (Below.refl _ _) _
   have HD5 := Lib.hid (hd3.keep hb5)
   have HB5 : Hid (BlkAt w5 b 29 #[.int .u8 0, .int .i64 0, .string ⟨#[]⟩, .slice none 0 0, .slice none 0 0, .slice none 0 0]) := by rw [← hw5, ← hb]; exact blkAt_new w3 _ _
   have hs5 : w5.heap.size = b + 1 := by rw [← hw5, size_al, hb]
   have HR5 : Hid (BlkAt w5 (w.heap.size + 1) 29 #[.int .u8 0, .int .i64 0, .string ⟨#[]⟩, .slice none 0 0, .slice none 0 0, .slice none 0 0]) := BlkAt.keep HR2.out (below_more hb3 hb5)
   have hA0 : ∀ A, s0 = .ok A → A.length ≤ 900 := fun A hA => by rw [(pick_ok (HS0.out.trans hA)).2]; simp
   have HL := Lib.hid (pList_any HD5.out tSigs 32 hA0 (by show _ ≤ _; decide) l s1 HS1)
   have HW5 := Lib.hid hw5
   have HBB := Lib.hid hb
   rw [hb] at ho3 hB3 hsz0
   have hrb : w.heap.size + 1 < b := by have := hb3.size; omega
   clear HOF a0 a1 a2 a3 a4 af hd3 HBW hb3 hbw0 hb5 hw5 hb HR2
   go_wp2_with fail
   go_step3
   go_wp2_with fail
   rw [HW5.out, HBB.out]
   refine HL.out.mono ?_
   rintro e w6 ⟨⟨sl, rfl, hit⟩, hd6, hsep6⟩
   rw [hs5] at hit
   obtain ⟨la, lc, rfl, hl0, -⟩ := hit.parts
   obtain ⟨n, hn⟩ : ∃ n, l.length = n := ⟨_, rfl⟩
   have hn32 : n ≤ 32 := by
     rcases list_ok HS1.out with ⟨_, -, h⟩ | ⟨_, _, -, -, -, -, -, h⟩
     · rw [← hn, h]; simp
     · omega
   have hmay : ∀ y ∈ l, mayB y = true := by
     rcases list_ok HS1.out with ⟨_, -, h⟩ | ⟨B, y, h1, -, h2, h3, h4, -⟩
     · rw [h]; simp
     · rw [h4]
       intro z hz
       exact may_item (may_item HMB.out (Or.inr (pick_ok (HS0.out.trans h1)).1) h2) (Or.inl h3) hz
   have hA1 : ∀ A, s1 = .ok A → A.length ≤ 900 := fun A hA => by
     rcases list_ok HS1.out with ⟨_, h, -⟩ | ⟨B, _, h1, h2, -⟩
     · rw [hA] at h; cases h
     · rw [hA] at h2
       cases h2
       rw [(pick_ok (HS0.out.trans h1)).2]
       simp
   have hbad : ∀ e, s1 = .bad e → n = 0 := fun e he => by
     rcases list_ok HS1.out with ⟨_, -, h⟩ | ⟨B, _, -, h2, -⟩
     · rw [← hn, h]; rfl
     · rw [he] at h2; cases h2
   have HMAY := Lib.hid hmay
   have HA1 := Lib.hid hA1
   have HBAD := Lib.hid hbad
   have HN := Lib.hid hn
   rw [hn] at hit ⊢
   have HIT := Lib.hid hit
   have HD6 := Lib.hid hd6
   have HB6 : Hid (BlkAt w6 b 29 #[.int .u8 0, .int .i64 0, .string ⟨#[]⟩, .slice none 0 0, .slice none 0 0, .slice none 0 0]) := (hsep6.block b (by omega) (by omega) (fun e => by have := Option.some.inj e; omega)).trans HB5.out
   have HR6 : Hid (BlkAt w6 (w.heap.size + 1) 29 #[.int .u8 0, .int .i64 0, .string ⟨#[]⟩, .slice none 0 0, .slice none 0 0, .slice none 0 0]) := (hsep6.block _ (by omega) (by omega) (fun e => by have := Option.some.inj e; omega)).trans HR5.out
   obtain ⟨M0, hM0⟩ : ∃ m, w6.heap.size = m := ⟨_, rfl⟩
   have hbM : b < M0 := by rw [← hM0]; exact BlkAt.lt HB6.out
   have HM0 := Lib.hid hM0
   obtain ⟨i0, hi, hz0, hz1, hz2⟩ := info_parts infoSig
   have HI := Lib.hid hi
   have HZ0 := Lib.hid hz0
   have HZ1 := Lib.hid hz1
   have HZ2 := Lib.hid hz2
   clear hi hz0 hz1 hz2 hit hmay hA1 hbad hn hd6 hsep6 HL HD5 HB5 HR5 hM0
   go_wp2_with fail
   go_loopw [20] (fun i wr => ∃ (j : Nat) (sg : List SigP) (sa : Option Addr) (sl sc : Nat), j ≤ n ∧ i = .int .i64 j ∧ sg.length = sl ∧ Hid (sl = j) ∧ M0 ≤ wr.heap.size ∧ Hid (PSt Q w0 wr o B V x' s1) ∧ Hid (BlkAt wr b 29 #[.int .u8 0, .int .i64 0, .string ⟨#[]⟩, .slice none 0 0, .slice none 0 0, .slice sa sl sc]) ∧ Hid (wr.ownsRow M0 43 2 (.slice sa sl sc) sg.length (sgCells sg)) ∧ Hid (BlkAt wr (w.heap.size + 1) 29 #[.int .u8 0, .int .i64 0, .string ⟨#[]⟩, .slice none 0 0, .slice none 0 0, .slice none 0 0]) ∧ Hid (Up (b + 1) w6 wr) ∧ Hid ((sigsV (l.take j)).2 = 0 ∧ sg = (sigsV (l.take j)).1)) (fun i _ => n - (intOf i).toNat)
   case atStart => exact ⟨0, [], none, 0, 0, by omega, rfl, rfl, rfl, by rw [HM0.out]; exact Nat.le_refl _, HD6, HB6, World.ownsRow_nil _ _ _ _, HR6, Up.of_below (Below.refl _ _), rfl, rfl⟩
   case round =>
     obtain ⟨j, sg, sa, sl, sc, hj, rfl, hsl, hslj, hMr, HDr, HBr, HSr, HRr, HUr, HQr⟩ := hrel
     clear HD6 HB6 HR6
     have hsb := BlkAt.lt HBr.out
     by_cases hjn : j < n
     · obtain ⟨A, hA⟩ : ∃ A, s1 = .ok A := by
         cases s1 with
         | bad e => have := HBAD.out e rfl; omega
         | ok A => exact ⟨A, rfl⟩
       have hi0 : (0 : Int) ≤ (j : Int) := by omega
       have hi1 : (j : Int) < (n : Int) := by omega
       obtain ⟨y, hy⟩ : ∃ y, l[j]? = some y := ⟨_, List.getElem?_eq_getElem (by rw [HN.out]; exact hjn)⟩
       obtain ⟨ib, io, ⟨yk, yn, yt, ya, yl, yc, yb, ym, ye⟩, rfl, c0, c1, c2, c3, c4, hyv⟩ := item_vc HIT.out hy
       have d0 := ((hidden_cell _ _ _ _).1 (HUr.out.val _ _ c0)).2.2
       have d1 := ((hidden_cell _ _ _ _).1 (HUr.out.val _ _ c1)).2.2
       have d2 := ((hidden_cell _ _ _ _).1 (HUr.out.val _ _ c2)).2.2
       have d3 := ((hidden_cell _ _ _ _).1 (HUr.out.val _ _ c3)).2.2
       have d4 := ((hidden_cell _ _ _ _).1 (HUr.out.val _ _ c4)).2.2
       have hyp : ValAt (pureW wr) y (VC.val ⟨yk, yn, yt, ya, yl, yc, yb, ym, ye⟩) := (hyv.imp HUr.out.val).imp fun p u hu => by
         obtain ⟨-, q2, q3⟩ := (hidden_cell _ _ _ _).1 hu
         exact (hidden_cell _ _ _ _).2 ⟨rfl, q2, q3⟩
       obtain ⟨wa, hwa⟩ : ∃ z, wr.alloc (.cells #[.int .u8 yk, .int .i64 yn, .string yt, .slice ya yl yc, .slice yb ym ye] 26) = z := ⟨_, rfl⟩
       have hba : Below wr.heap.size wr wa := by rw [← hwa]; exact bel_alloc (Below.refl _ _) _
       have HSIG := Lib.hid (sigOf_any y ⟨yk, yn, yt, ya, yl, yc, yb, ym, ye⟩ wa (hyp.imp (pure_keep hba)) (HMAY.out y (List.mem_of_getElem? hy)))
       have HBA := Lib.hid hba
       have HWA := Lib.hid hwa
       have HY := Lib.hid hy
       have HAA := Lib.hid hA
       clear c0 c1 c2 c3 c4 hyv hy hyp hba hwa hA
       simp only [VC.val] at HSIG
       go_wp2_with fail
       rw [HWA.out]
       refine HSIG.out.mono ?_
       rintro e w7 ⟨hb7, ga, gb, er, rfl, hcs⟩
       have HCS := Lib.hid hcs
       obtain ⟨w8, hw8⟩ : ∃ z, w7.alloc (.cells #[.string ga, .string gb] 43) = z := ⟨_, rfl⟩
       obtain ⟨tb, htb⟩ : ∃ z, w7.heap.size = z := ⟨_, rfl⟩
       have hb78 : Below w7.heap.size w7 w8 := by rw [← hw8]; exact bel_alloc (Below.refl _ _) _
       have hb8 := below_more (below_more HBA.out hb7) hb78
       have HT8 : Hid (BlkAt w8 tb 43 #[.string ga, .string gb]) := by rw [← hw8, ← htb]; exact blkAt_new w7 _ _
       have HD8 := Lib.hid (HDr.out.keep hb8)
       have HB8 := Lib.hid (BlkAt.keep HBr.out hb8)
       have HS8 := Lib.hid (ownsRow_keep HSr.out hb8)
       have HR8 := Lib.hid (BlkAt.keep HRr.out hb8)
       have HU8 := Lib.hid (HUr.out.trans (Up.of_below hb8))
       have hs8 := hb8.size
       have htl : wr.heap.size ≤ tb := by rw [← htb]; exact (below_more HBA.out hb7).size
       have hts : tb < w8.heap.size := BlkAt.lt HT8.out
       have HW8 := Lib.hid hw8
       have HTB := Lib.hid htb
       clear hcs hb7 hw8 htb hb78 hb8 HDr HBr HSr HRr HUr HSIG d0 d1 d2 d3 d4
       obtain ⟨t0, t1, tf⟩ := b2 HT8.out
       obtain ⟨-, -, -, -, -, b5, bf⟩ := b6' HB8.out
       rw [← HW8.out] at t0 t1 b5
       rw [← HTB.out] at t0 t1
       by_cases her : er = 0
       · have hsig : sigV y = .ok (ga, gb) := by
           rcases HCS.out with ⟨-, h⟩ | ⟨h, -⟩
           · exact h
           · exact absurd her h
         have HSY := Lib.hid hsig
         subst her
         clear hsig HCS
         have hslb : sl ≤ 32 := by have := hslj.out; omega
         have HSL := Lib.hid hsl
         have HSJ := Lib.hid hslj.out
         have HS8' := HS8.out
         rw [← HW8.out] at HS8'
         clear hsl hslj
         have hnc : ∀ j u, [Value.string ga, Value.string gb][j]? = some u → ((w7.alloc (.cells #[.string ga, .string gb] 43)).alloc (.cells #[.string ga, .string gb] 43)).cell? ((⟨w7.heap.size + 1, 0, none⟩ : Addr).add j) = some u := fun j u hj => by
           have hadd : (⟨w7.heap.size + 1, 0, none⟩ : Addr).add j = ⟨w7.heap.size + 1, j, none⟩ := by unfold Addr.add; split <;> simp_all
           rw [hadd, cell_al_eq _ _ _ _ _ (by rw [size_al])]
           simpa using hj
         have hone : ∀ u ∈ [Value.string ga, Value.string gb], u.oneCell' = true := fun u hu => by
           simp only [List.mem_cons, List.not_mem_nil, or_false] at hu
           rcases hu with rfl | rfl <;> rfl
         have hm1 : sg.length + 1 ≤ maxLen := by have h1 := HSL.out; unfold maxLen; omega
         have hm2 : (sg.length + 1) * 32 ≤ 140737488355328 := by have h1 := HSL.out; omega
         have hm3 : M0 ≤ ((w7.alloc (.cells #[.string ga, .string gb] 43)).alloc (.cells #[.string ga, .string gb] 43)).heap.size := by rw [size_al, size_al]; have := HTB.out; omega
         have HNC := Lib.hid hnc
         have HONE := Lib.hid hone
         have HM1 := Lib.hid hm1
         have HM2 := Lib.hid hm2
         have HM3 := Lib.hid hm3
         clear hnc hone hm1 hm2 hm3
         go_wp2_with (at_builtin; refine wpList_append_own_at _ rfl _ _ 27 rfl M0 43 i0 (.agg #[.string ⟨#[]⟩, .string ⟨#[]⟩]) 2 32 Tryz.underlying27 HI.out HZ0.out HZ1.out HZ2.out rfl (by decide) _ _ _ rfl (World.ownsRow.alloc HS8' _) ⟨w7.heap.size + 1, 0, none⟩ 1 1 [.string ga, .string gb] rfl rfl HNC.out HONE.out HM1.out HM2.out HM3.out ?_)
         intro v' w9 hown9 hgrow9 _ hblk9
         rw [HW8.out] at hgrow9
         obtain ⟨g9, p9, rfl, hg9, hg9'⟩ := World.ownsRow.form hown9 (by omega)
         have hgm : M0 ≤ g9 := hg9
         have hlow : ∀ k, k < M0 → (Value.slice sa sl sc).ownBlock ≠ some k := fun k hk e => by have := (World.ownsRow.lt HS8.out k e).1; omega
         have hkeep : ∀ k, k < w8.heap.size → (Value.slice sa sl sc).ownBlock ≠ some k → w9.heap[k]? = w8.heap[k]? := fun k hk hne => (hgrow9.block k (by rw [size_al]; omega) (fun e => hne e.symm)).trans ((bel_alloc (Below.refl _ w8) _).block k hk)
         have hs9 : w8.heap.size ≤ w9.heap.size := by have h1 := hgrow9.size; rw [size_al] at h1; omega
         have hbl8 := HD8.out.bel
         have hbel9 : Below w0.heap.size w0 w9 := ⟨hgrow9.os.trans hbl8.os, hgrow9.tape.trans hbl8.tape, hgrow9.output.trans hbl8.output, Nat.le_trans hbl8.size hs9, fun k hk => (hkeep k (by have := hbl8.size; omega) (hlow k (by omega))).trans (hbl8.block k hk)⟩
         have hd9 := HD8.out.later hbel9 (hkeep o (by omega) (hlow o (by omega))) (hkeep B (by omega) (hlow B (by omega)))
         have HB9 : Hid (BlkAt w9 b 29 #[.int .u8 0, .int .i64 0, .string ⟨#[]⟩, .slice none 0 0, .slice none 0 0, .slice sa sl sc]) := (hkeep b (by omega) (hlow b (by omega))).trans HB8.out
         have HR9 : Hid (BlkAt w9 (w.heap.size + 1) 29 #[.int .u8 0, .int .i64 0, .string ⟨#[]⟩, .slice none 0 0, .slice none 0 0, .slice none 0 0]) := (hkeep _ (by omega) (hlow _ (by omega))).trans HR8.out
         have HS9 : Hid (w9.ownsRow M0 43 2 (.slice (some ⟨g9, 0, none⟩) (sg.length + 1) p9) (sg ++ [(ga, gb)]).length (sgCells (sg ++ [(ga, gb)]))) := by rw [List.length_append, sgCells_snoc]; exact hown9
         have HU9 : Hid (Up (b + 1) w6 w9) := ⟨Nat.le_trans HU8.out.1 hs9, fun k hk hl => (hkeep k (by have := HU8.out.1; omega) (hlow k (by have := HM0.out; omega))).trans (HU8.out.2 k hk hl)⟩
         obtain ⟨-, -, -, -, -, b5, bf⟩ := b6' HB9.out
         have HD10 := Lib.hid (hd9.set (b := b) (by omega) (by omega) (by omega) 5 (.slice (some ⟨g9, 0, none⟩) (sg.length + 1) p9))
         have HB10 : Hid (BlkAt (w9.setCell ⟨b, 5, none⟩ (.slice (some ⟨g9, 0, none⟩) (sg.length + 1) p9)) b 29 #[.int .u8 0, .int .i64 0, .string ⟨#[]⟩, .slice none 0 0, .slice none 0 0, .slice (some ⟨g9, 0, none⟩) (sg.length + 1) p9]) := BlkAt.set HB9.out 5 _
         have HS10 := Lib.hid (row_far HS9.out (b := b) (by intro e; have e2 : b = g9 := Option.some.inj e; omega) 5 (.slice (some ⟨g9, 0, none⟩) (sg.length + 1) p9))
         have HR10 := Lib.hid (HR9.out.set_far (b := b) (by omega) 5 (.slice (some ⟨g9, 0, none⟩) (sg.length + 1) p9))
         have HU10 : Hid (Up (b + 1) w6 (w9.setCell ⟨b, 5, none⟩ (.slice (some ⟨g9, 0, none⟩) (sg.length + 1) p9))) := ⟨by rw [setCell_size]; exact HU9.out.1, fun k hk hl => (Below.heap_setCell _ _ _ _ (by show k ≠ b; omega)).trans (HU9.out.2 k hk hl)⟩
         have hm10 : M0 ≤ (w9.setCell ⟨b, 5, none⟩ (.slice (some ⟨g9, 0, none⟩) (sg.length + 1) p9)).heap.size := by rw [setCell_size]; omega
         clear hown9 hgrow9 hblk9 hlow hkeep hbel9 hd9 HB9 HR9 HS9 HU9 HD8 HB8 HT8 HR8 HS8 HU8 t0 t1 tf hbl8
         go_wp2_with fail
         refine ⟨⟨j + 1, sg ++ [(ga, gb)], some ⟨g9, 0, none⟩, sg.length + 1, p9, by omega, by go_num, by simp, (by show _ = _; have h1 := HSL.out; have h2 := HSJ.out; omega), hm10, HD10, HB10, HS10, HR10, HU10, ?_⟩, ?_⟩
         · obtain ⟨m1, m2⟩ := sigs_more HY.out HSY.out HQr.out.1
           exact ⟨m1, by rw [m2, ← HQr.out.2]⟩
         · simp [intOf]; omega
       · have heb : (er == 0) = false := beq_eq_false_iff_ne.2 her
         have hsig : sigV y = .bad er := by
           rcases HCS.out with ⟨h, -⟩ | ⟨-, h⟩
           · exact absurd h her
           · exact h
         have HFL := Lib.hid (pFail_any HD8.out er)
         have HSY := Lib.hid hsig
         have HER := Lib.hid her
         clear hsig HCS her
         go_wp2_with fail
         rw [HW8.out]
         refine HFL.out.mono ?_
         rintro e w9 ⟨rfl, hd9, hsep9⟩
         rw [HAA.out, failQ, if_neg HER.out] at hd9
         obtain ⟨st, hst⟩ : ∃ s, PS.bad er = s := ⟨_, rfl⟩
         have hf : st = failQ (sigsV l).2 s1 := by
           rw [sigs_bad HY.out HSY.out HQr.out.1, HAA.out, failQ, if_neg HER.out, hst]
         have hsgf : ∀ A, st = .ok A → sg = (sigsV l).1 := fun A hA => by rw [← hst] at hA; cases hA
         rw [hst] at hd9
         obtain ⟨wr, hwr⟩ : ∃ z, w9 = z := ⟨_, rfl⟩
         subst hwr
         have HDr := Lib.hid hd9
         have HBr : Hid (BlkAt w9 b 29 #[.int .u8 0, .int .i64 0, .string ⟨#[]⟩, .slice none 0 0, .slice none 0 0, .slice sa sl sc]) := (hsep9.block b (by omega) (by omega) (fun e => by have := Option.some.inj e; omega)).trans HB8.out
         have HRr : Hid (BlkAt w9 (w.heap.size + 1) 29 #[.int .u8 0, .int .i64 0, .string ⟨#[]⟩, .slice none 0 0, .slice none 0 0, .slice none 0 0]) := (hsep9.block _ (by omega) (by omega) (fun e => by have := Option.some.inj e; omega)).trans HR8.out
         have HSr : Hid (w9.ownsRow M0 43 2 (.slice sa sl sc) sg.length (sgCells sg)) := row_same HS8.out fun k hk => by
           have h1 := World.ownsRow.lt HS8.out k hk
           exact hsep9.block k h1.2 (by omega) (fun e => by have := Option.some.inj e; omega)
         have hsb := BlkAt.lt HBr.out
         clear hst hd9 hsep9 HB8 HR8 HS8 HD8 HT8 HU8 HFL HQr t0 t1 tf b5 bf
         go_wp2_with fail
         have hsF := HS2.out
         rw [← hf] at hsF
         have hA2 : ∀ A, st = .ok A → A.length ≤ 900 := fun A hA => by
           rw [hA] at hf
           cases hs1 : s1 with
           | bad e => rw [hs1, failQ] at hf; cases hf
           | ok B =>
             rw [hs1, failQ] at hf
             split at hf
             · cases hf
               exact HA1.out A hs1
             · cases hf
         have HOBJ := Lib.hid (pObject_any HDr.out tSigned 8192 hA2 (by show _ ≤ _; decide) (by omega) (by omega) X s2 (Lib.hid hsF))
         have hA3 : ∀ A, s2 = .ok A → A.length ≤ 1000 := fun A hA => by
           obtain ⟨B', h1, h2⟩ := obj_ok hsF hA
           have := hA2 B' h1
           rw [h2]; simp; omega
         have HA3 := Lib.hid hA3
         have HSGF := Lib.hid hsgf
         have HSF := Lib.hid hsF
         have HDr0 := Lib.hid HDr.out
         clear hA2 hA3 hsF hf hsgf
         go_wp2_with fail
         refine HOBJ.out.mono ?_
         rintro e w6 ⟨⟨⟨zk, zn, zt, za, zl, zc, zb, zm, ze⟩, rfl, hzv⟩, ⟨hd6, hsep6⟩⟩
         have HB6 : Hid (BlkAt w6 b 29 #[.int .u8 0, .int .i64 0, .string ⟨#[]⟩, .slice none 0 0, .slice none 0 0, .slice sa sl sc]) := (hsep6.block b (by omega) (by omega) (fun e => by have := Option.some.inj e; omega)).trans HBr.out
         have HR6 : Hid (BlkAt w6 (w.heap.size + 1) 29 #[.int .u8 0, .int .i64 0, .string ⟨#[]⟩, .slice none 0 0, .slice none 0 0, .slice none 0 0]) := (hsep6.block _ (by omega) (by omega) (fun e => by have := Option.some.inj e; omega)).trans HRr.out
         have HS6 : Hid (w6.ownsRow M0 43 2 (.slice sa sl sc) sg.length (sgCells sg)) := row_same HSr.out fun k hk => by
           have h1 := World.ownsRow.lt HSr.out k hk
           exact hsep6.block k h1.2 (by omega) (fun e => by have := Option.some.inj e; omega)
         obtain ⟨b0, b1, b2', b3, b4, b5, bf⟩ := b6' HB6.out
         have HD7 := Lib.hid (hd6.set5 (b := b) (by omega) (by omega) (by omega) (.int .u8 zk) (.int .i64 zn) (.string zt) (.slice za zl zc) (.slice zb zm ze))
         have HB7 := Lib.hid (blk6_set5 HB6.out (.int .u8 zk) (.int .i64 zn) (.string zt) (.slice za zl zc) (.slice zb zm ze))
         have HS7 := Lib.hid (row_far5 HS6.out (b := b) (fun e => by have := (World.ownsRow.lt HS6.out b e.symm).1; omega) (.int .u8 zk) (.int .i64 zn) (.string zt) (.slice za zl zc) (.slice zb zm ze))
         have HR7 := Lib.hid (far5 HR6.out (b := b) (by omega) (.int .u8 zk) (.int .i64 zn) (.string zt) (.slice za zl zc) (.slice zb zm ze))
         have HZV : Hid (ValAt (hidden (offB (b + 1) none) (((((w6.setCell ⟨b, 0, none⟩ (.int .u8 zk)).setCell ⟨b, 1, none⟩ (.int .i64 zn)).setCell ⟨b, 2, none⟩ (.string zt)).setCell ⟨b, 3, none⟩ (.slice za zl zc)).setCell ⟨b, 4, none⟩ (.slice zb zm ze))) X (VC.val ⟨zk, zn, zt, za, zl, zc, zb, zm, ze⟩)) := (hzv.imp (hid_lower (by omega) _)).imp (Up.set5 (Up.of_below (Below.refl _ _)) (by omega) _ _ _ _ _).val
         simp only [VC.val]
         clear hd6 hsep6 hzv HDr HBr HSr HRr HB6 HR6 HS6 HOBJ
         go_wp2_with fail
         generalize (((((w6.setCell ⟨b, 0, none⟩ (.int .u8 zk)).setCell ⟨b, 1, none⟩ (.int .i64 zn)).setCell ⟨b, 2, none⟩ (.string zt)).setCell ⟨b, 3, none⟩ (.slice za zl zc)).setCell ⟨b, 4, none⟩ (.slice zb zm ze)) = w7 at HD7 HB7 HS7 HR7 HZV ⊢
         refine (pDone_any HD7.out HA3.out).mono ?_
         rintro e w8 ⟨rfl, hb8⟩
         have HB8 := Lib.hid (BlkAt.keep HB7.out hb8)
         have HS8 := Lib.hid (ownsRow_keep HS7.out hb8)
         have HR8 := Lib.hid (BlkAt.keep HR7.out hb8)
         have HZV8 : Hid (ValAt (hidden (offB (b + 1) none) w8) X (VC.val ⟨zk, zn, zt, za, zl, zc, zb, zm, ze⟩)) := HZV.out.imp (Up.of_below hb8).val
         have HBEL : Hid (Below w.heap.size w w8) := below_more (HB0.out _ HD7.out.bel) hb8
         obtain ⟨dq, hdq⟩ : ∃ q, doneQ V s2 = q := ⟨_, rfl⟩
         rw [hdq]
         have hr := HR.out
         rw [hdq] at hr
         obtain ⟨x0, x1, x2, x3, x4, x5, xf⟩ := b6' HB8.out
         obtain ⟨r0, r1, r2, r3, r4, r5, rf⟩ := b6' HR8.out
         have hrbb : ¬ w.heap.size + 1 = b := by omega
         have hbrb : ¬ b = w.heap.size + 1 := by omega
         have hst0 : dq = 0 → ∃ A, st = .ok A := fun h0 => by
           cases st with
           | ok A => exact ⟨A, rfl⟩
           | bad e0 =>
             have h1 := HSF.out
             rw [objQ, takeQ] at h1
             cases h1
             rw [doneQ] at hdq
             exact absurd (hdq.trans h0) (PBad.ne HDr0.out)
         clear HD7 HB7 HS7 HR7 HZV hb8 hdq b0 b1 b2' b3 b4 b5 bf
         by_cases hd : dq = 0
         · rw [if_neg (by simpa using hd)] at hr
           have hdb : (dq != 0) = false := by rw [hd]; rfl
           obtain ⟨A, hA⟩ := hst0 hd
           have hsg := HSGF.out A hA
           have HSL := Lib.hid hsl
           clear hd hst0
           subst hr
           go_wp2_with fail
           have HS9 := row_far (row_far5 HS8.out (b := w.heap.size + 1) (fun e => by have := (World.ownsRow.lt HS8.out _ e.symm).1; omega) (.int .u8 zk) (.int .i64 zn) (.string zt) (.slice za zl zc) (.slice zb zm ze)) (b := w.heap.size + 1) (fun e => by have := (World.ownsRow.lt HS8.out _ e.symm).1; omega) 5 (.slice sa sl sc)
           have hbf := bel_set (bel_set (bel_set (bel_set (bel_set (bel_set HBEL.out (p := ⟨w.heap.size + 1, 0, none⟩) (Nat.le_succ _) (.int .u8 zk)) (p := ⟨w.heap.size + 1, 1, none⟩) (Nat.le_succ _) (.int .i64 zn)) (p := ⟨w.heap.size + 1, 2, none⟩) (Nat.le_succ _) (.string zt)) (p := ⟨w.heap.size + 1, 3, none⟩) (Nat.le_succ _) (.slice za zl zc)) (p := ⟨w.heap.size + 1, 4, none⟩) (Nat.le_succ _) (.slice zb zm ze)) (p := ⟨w.heap.size + 1, 5, none⟩) (Nat.le_succ _) (.slice sa sl sc)
           have hzf : ValAt (hidden (offB w.heap.size none) ((((((w8.setCell ⟨w.heap.size + 1, 0, none⟩ (.int .u8 zk)).setCell ⟨w.heap.size + 1, 1, none⟩ (.int .i64 zn)).setCell ⟨w.heap.size + 1, 2, none⟩ (.string zt)).setCell ⟨w.heap.size + 1, 3, none⟩ (.slice za zl zc)).setCell ⟨w.heap.size + 1, 4, none⟩ (.slice zb zm ze)).setCell ⟨w.heap.size + 1, 5, none⟩ (.slice sa sl sc))) X (VC.val ⟨zk, zn, zt, za, zl, zc, zb, zm, ze⟩) := ValAt.carry HZV8.out fun k hk1 hk2 => by
             have := offB_none.1 hk2
             exact ⟨offB_none.2 (by omega), heap_set6k _ _ _ _ _ _ _ _ _ (by omega)⟩
           subst hsg
           have hsl2 := HSL.out
           subst hsl2
           rw [Exit.noGoto_ret]
           obtain ⟨q0, q1, q2, q3, q4, q5, -⟩ := b6' ((blk6_set5 HR8.out (.int .u8 zk) (.int .i64 zn) (.string zt) (.slice za zl zc) (.slice zb zm ze)).set 5 (.slice sa (sigsV l).1.length sc))
           clear r0 r1 r2 r3 r4 r5 rf x0 x1 x2 x3 x4 x5 xf hrbb hbrb
           have hsf := sigsAt_own (C := w.heap.size) HS9 (by omega)
           generalize ((((((w8.setCell ⟨w.heap.size + 1, 0, none⟩ (.int .u8 zk)).setCell ⟨w.heap.size + 1, 1, none⟩ (.int .i64 zn)).setCell ⟨w.heap.size + 1, 2, none⟩ (.string zt)).setCell ⟨w.heap.size + 1, 3, none⟩ (.slice za zl zc)).setCell ⟨w.heap.size + 1, 4, none⟩ (.slice zb zm ze)).setCell ⟨w.heap.size + 1, 5, none⟩ (.slice sa (sigsV l).1.length sc)) = wf at hbf hzf hsf q0 q1 q2 q3 q4 q5 ⊢
           exact bodyPost_ret (v := .tuple #[envVal ⟨zk, zn, zt, za, zl, zc, zb, zm, ze⟩ sa (sigsV l).1.length sc, .int .i64 0]) (by simp [results, Tryz.results17, go_sem, envVal, q0, q1, q2, q3, q4, q5]) rfl ⟨hbf, ⟨zk, zn, zt, za, zl, zc, zb, zm, ze⟩, sa, sc, rfl, hzf, hsf⟩
         · rw [if_pos (by simpa using hd)] at hr
           have hdb : (dq != 0) = true := by rw [bne_iff_ne]; exact hd
           have HD := Lib.hid hd
           clear hd hst0
           subst hr
           go_wp2_with fail
           rw [Exit.noGoto_ret]
           obtain ⟨q0, q1, q2, q3, q4, q5, -⟩ := b6' ((blk6_set5 HR8.out (.int .u8 0) (.int .i64 0) (.string ⟨#[]⟩) (.slice none 0 0) (.slice none 0 0)).set 5 (.slice none 0 0))
           have HBF := bel_set6 HBEL.out (Nat.le_succ _) (.int .u8 0) (.int .i64 0) (.string ⟨#[]⟩) (.slice none 0 0) (.slice none 0 0) (.slice none 0 0)
           clear r0 r1 r2 r3 r4 r5 rf x0 x1 x2 x3 x4 x5 xf hrbb hbrb
           exact bodyPost_ret (v := .tuple #[.agg #[.int .u8 0, .int .i64 0, .string ⟨#[]⟩, .slice none 0 0, .slice none 0 0, .slice none 0 0], .int .i64 dq]) (by simp [results, Tryz.results17, go_sem, q0, q1, q2, q3, q4, q5]) rfl ⟨HBF, rfl, HD.out⟩
     · have hi1 : ¬ (j : Int) < (n : Int) := by omega
       obtain rfl : j = n := by omega
       have htl : l.take j = l := List.take_of_length_le (by rw [HN.out]; exact Nat.le_refl _)
       obtain ⟨st, hst⟩ : ∃ s, s1 = s := ⟨_, rfl⟩
       have hf : st = failQ (sigsV l).2 s1 := by
         have := HQr.out.1
         rw [htl] at this
         rw [this, ← hst]
         cases s1 with
         | bad e => rfl
         | ok A => rw [failQ, if_pos rfl]
       have hsgf : ∀ A, st = .ok A → sg = (sigsV l).1 := fun A hA => by
         have := HQr.out.2
         rwa [htl] at this
       rw [hst] at HDr
       clear htl hst HQr
       have hsF := HS2.out
       rw [← hf] at hsF
       have hA2 : ∀ A, st = .ok A → A.length ≤ 900 := fun A hA => by
         rw [hA] at hf
         cases hs1 : s1 with
         | bad e => rw [hs1, failQ] at hf; cases hf
         | ok B =>
           rw [hs1, failQ] at hf
           split at hf
           · cases hf
             exact HA1.out A hs1
           · cases hf
       have HOBJ := Lib.hid (pObject_any HDr.out tSigned 8192 hA2 (by show _ ≤ _; decide) (by omega) (by omega) X s2 (Lib.hid hsF))
       have hA3 : ∀ A, s2 = .ok A → A.length ≤ 1000 := fun A hA => by
         obtain ⟨B', h1, h2⟩ := obj_ok hsF hA
         have := hA2 B' h1
         rw [h2]; simp; omega
       have HA3 := Lib.hid hA3
       have HSGF := Lib.hid hsgf
       have HSF := Lib.hid hsF
       have HDr0 := Lib.hid HDr.out
       clear hA2 hA3 hsF hf hsgf
       go_wp2_with fail
       refine HOBJ.out.mono ?_
       rintro e w6 ⟨⟨⟨zk, zn, zt, za, zl, zc, zb, zm, ze⟩, rfl, hzv⟩, ⟨hd6, hsep6⟩⟩
       have HB6 : Hid (BlkAt w6 b 29 #[.int .u8 0, .int .i64 0, .string ⟨#[]⟩, .slice none 0 0, .slice none 0 0, .slice sa sl sc]) := (hsep6.block b (by omega) (by omega) (fun e => by have := Option.some.inj e; omega)).trans HBr.out
       have HR6 : Hid (BlkAt w6 (w.heap.size + 1) 29 #[.int .u8 0, .int .i64 0, .string ⟨#[]⟩, .slice none 0 0, .slice none 0 0, .slice none 0 0]) := (hsep6.block _ (by omega) (by omega) (fun e => by have := Option.some.inj e; omega)).trans HRr.out
       have HS6 : Hid (w6.ownsRow M0 43 2 (.slice sa sl sc) sg.length (sgCells sg)) := row_same HSr.out fun k hk => by
         have h1 := World.ownsRow.lt HSr.out k hk
         exact hsep6.block k h1.2 (by omega) (fun e => by have := Option.some.inj e; omega)
       obtain ⟨b0, b1, b2', b3, b4, b5, bf⟩ := b6' HB6.out
       have HD7 := Lib.hid (hd6.set5 (b := b) (by omega) (by omega) (by omega) (.int .u8 zk) (.int .i64 zn) (.string zt) (.slice za zl zc) (.slice zb zm ze))
       have HB7 := Lib.hid (blk6_set5 HB6.out (.int .u8 zk) (.int .i64 zn) (.string zt) (.slice za zl zc) (.slice zb zm ze))
       have HS7 := Lib.hid (row_far5 HS6.out (b := b) (fun e => by have := (World.ownsRow.lt HS6.out b e.symm).1; omega) (.int .u8 zk) (.int .i64 zn) (.string zt) (.slice za zl zc) (.slice zb zm ze))
       have HR7 := Lib.hid (far5 HR6.out (b := b) (by omega) (.int .u8 zk) (.int .i64 zn) (.string zt) (.slice za zl zc) (.slice zb zm ze))
       have HZV : Hid (ValAt (hidden (offB (b + 1) none) (((((w6.setCell ⟨b, 0, none⟩ (.int .u8 zk)).setCell ⟨b, 1, none⟩ (.int .i64 zn)).setCell ⟨b, 2, none⟩ (.string zt)).setCell ⟨b, 3, none⟩ (.slice za zl zc)).setCell ⟨b, 4, none⟩ (.slice zb zm ze))) X (VC.val ⟨zk, zn, zt, za, zl, zc, zb, zm, ze⟩)) := (hzv.imp (hid_lower (by omega) _)).imp (Up.set5 (Up.of_below (Below.refl _ _)) (by omega) _ _ _ _ _).val
       simp only [VC.val]
       clear hd6 hsep6 hzv HDr HBr HSr HRr HB6 HR6 HS6 HOBJ
       go_wp2_with fail
       generalize (((((w6.setCell ⟨b, 0, none⟩ (.int .u8 zk)).setCell ⟨b, 1, none⟩ (.int .i64 zn)).setCell ⟨b, 2, none⟩ (.string zt)).setCell ⟨b, 3, none⟩ (.slice za zl zc)).setCell ⟨b, 4, none⟩ (.slice zb zm ze)) = w7 at HD7 HB7 HS7 HR7 HZV ⊢
       refine (pDone_any HD7.out HA3.out).mono ?_
       rintro e w8 ⟨rfl, hb8⟩
       have HB8 := Lib.hid (BlkAt.keep HB7.out hb8)
       have HS8 := Lib.hid (ownsRow_keep HS7.out hb8)
       have HR8 := Lib.hid (BlkAt.keep HR7.out hb8)
       have HZV8 : Hid (ValAt (hidden (offB (b + 1) none) w8) X (VC.val ⟨zk, zn, zt, za, zl, zc, zb, zm, ze⟩)) := HZV.out.imp (Up.of_below hb8).val
       have HBEL : Hid (Below w.heap.size w w8) := below_more (HB0.out _ HD7.out.bel) hb8
       obtain ⟨dq, hdq⟩ : ∃ q, doneQ V s2 = q := ⟨_, rfl⟩
       rw [hdq]
       have hr := HR.out
       rw [hdq] at hr
       obtain ⟨x0, x1, x2, x3, x4, x5, xf⟩ := b6' HB8.out
       obtain ⟨r0, r1, r2, r3, r4, r5, rf⟩ := b6' HR8.out
       have hrbb : ¬ w.heap.size + 1 = b := by omega
       have hbrb : ¬ b = w.heap.size + 1 := by omega
       have hst0 : dq = 0 → ∃ A, st = .ok A := fun h0 => by
         cases st with
         | ok A => exact ⟨A, rfl⟩
         | bad e0 =>
           have h1 := HSF.out
           rw [objQ, takeQ] at h1
           cases h1
           rw [doneQ] at hdq
           exact absurd (hdq.trans h0) (PBad.ne HDr0.out)
       clear HD7 HB7 HS7 HR7 HZV hb8 hdq b0 b1 b2' b3 b4 b5 bf
       by_cases hd : dq = 0
       · rw [if_neg (by simpa using hd)] at hr
         have hdb : (dq != 0) = false := by rw [hd]; rfl
         obtain ⟨A, hA⟩ := hst0 hd
         have hsg := HSGF.out A hA
         have HSL := Lib.hid hsl
         clear hd hst0
         subst hr
         go_wp2_with fail
         have HS9 := row_far (row_far5 HS8.out (b := w.heap.size + 1) (fun e => by have := (World.ownsRow.lt HS8.out _ e.symm).1; omega) (.int .u8 zk) (.int .i64 zn) (.string zt) (.slice za zl zc) (.slice zb zm ze)) (b := w.heap.size + 1) (fun e => by have := (World.ownsRow.lt HS8.out _ e.symm).1; omega) 5 (.slice sa sl sc)
         have hbf := bel_set (bel_set (bel_set (bel_set (bel_set (bel_set HBEL.out (p := ⟨w.heap.size + 1, 0, none⟩) (Nat.le_succ _) (.int .u8 zk)) (p := ⟨w.heap.size + 1, 1, none⟩) (Nat.le_succ _) (.int .i64 zn)) (p := ⟨w.heap.size + 1, 2, none⟩) (Nat.le_succ _) (.string zt)) (p := ⟨w.heap.size + 1, 3, none⟩) (Nat.le_succ _) (.slice za zl zc)) (p := ⟨w.heap.size + 1, 4, none⟩) (Nat.le_succ _) (.slice zb zm ze)) (p := ⟨w.heap.size + 1, 5, none⟩) (Nat.le_succ _) (.slice sa sl sc)
         have hzf : ValAt (hidden (offB w.heap.size none) ((((((w8.setCell ⟨w.heap.size + 1, 0, none⟩ (.int .u8 zk)).setCell ⟨w.heap.size + 1, 1, none⟩ (.int .i64 zn)).setCell ⟨w.heap.size + 1, 2, none⟩ (.string zt)).setCell ⟨w.heap.size + 1, 3, none⟩ (.slice za zl zc)).setCell ⟨w.heap.size + 1, 4, none⟩ (.slice zb zm ze)).setCell ⟨w.heap.size + 1, 5, none⟩ (.slice sa sl sc))) X (VC.val ⟨zk, zn, zt, za, zl, zc, zb, zm, ze⟩) := ValAt.carry HZV8.out fun k hk1 hk2 => by
           have := offB_none.1 hk2
           exact ⟨offB_none.2 (by omega), heap_set6k _ _ _ _ _ _ _ _ _ (by omega)⟩
         subst hsg
         have hsl2 := HSL.out
         subst hsl2
         rw [Exit.noGoto_ret]
         obtain ⟨q0, q1, q2, q3, q4, q5, -⟩ := b6' ((blk6_set5 HR8.out (.int .u8 zk) (.int .i64 zn) (.string zt) (.slice za zl zc) (.slice zb zm ze)).set 5 (.slice sa (sigsV l).1.length sc))
         clear r0 r1 r2 r3 r4 r5 rf x0 x1 x2 x3 x4 x5 xf hrbb hbrb
         have hsf := sigsAt_own (C := w.heap.size) HS9 (by omega)
         generalize ((((((w8.setCell ⟨w.heap.size + 1, 0, none⟩ (.int .u8 zk)).setCell ⟨w.heap.size + 1, 1, none⟩ (.int .i64 zn)).setCell ⟨w.heap.size + 1, 2, none⟩ (.string zt)).setCell ⟨w.heap.size + 1, 3, none⟩ (.slice za zl zc)).setCell ⟨w.heap.size + 1, 4, none⟩ (.slice zb zm ze)).setCell ⟨w.heap.size + 1, 5, none⟩ (.slice sa (sigsV l).1.length sc)) = wf at hbf hzf hsf q0 q1 q2 q3 q4 q5 ⊢
         exact bodyPost_ret (v := .tuple #[envVal ⟨zk, zn, zt, za, zl, zc, zb, zm, ze⟩ sa (sigsV l).1.length sc, .int .i64 0]) (by simp [results, Tryz.results17, go_sem, envVal, q0, q1, q2, q3, q4, q5]) rfl ⟨hbf, ⟨zk, zn, zt, za, zl, zc, zb, zm, ze⟩, sa, sc, rfl, hzf, hsf⟩
       · rw [if_pos (by simpa using hd)] at hr
         have hdb : (dq != 0) = true := by rw [bne_iff_ne]; exact hd
         have HD := Lib.hid hd
         clear hd hst0
         subst hr
         go_wp2_with fail
         rw [Exit.noGoto_ret]
         obtain ⟨q0, q1, q2, q3, q4, q5, -⟩ := b6' ((blk6_set5 HR8.out (.int .u8 0) (.int .i64 0) (.string ⟨#[]⟩) (.slice none 0 0) (.slice none 0 0)).set 5 (.slice none 0 0))
         have HBF := bel_set6 HBEL.out (Nat.le_succ _) (.int .u8 0) (.int .i64 0) (.string ⟨#[]⟩) (.slice none 0 0) (.slice none 0 0) (.slice none 0 0)
         clear r0 r1 r2 r3 r4 r5 rf x0 x1 x2 x3 x4 x5 xf hrbb hbrb
         exact bodyPost_ret (v := .tuple #[.agg #[.int .u8 0, .int .i64 0, .string ⟨#[]⟩, .slice none 0 0, .slice none 0 0, .slice none 0 0], .int .i64 dq]) (by simp [results, Tryz.results17, go_sem, q0, q1, q2, q3, q4, q5]) rfl ⟨HBF, rfl, HD.out⟩
end
end Go.Proofs.YtmggmpigpiaagaaGreatDoor
