/-
  Texts that say a value, however they are written: what is read of them (plain).
-/
import Derived.Test.YtfdecbfcddkoiaaGreatDoorReadJoin
namespace Go.Proofs.YtfdecbfcddkoiaaGreatDoor
open Go.RowKit

/-- A text that says a value, wherever it stands, whatever stops it. -/
def Sp (V : JV) (l : List UInt8) : Prop := ∀ (q : Nat) (b : List UInt8), StopN b →
  ∃ m0 pre, lexes (l ++ b) q = .tok m0 :: (pre ++ lexes b (q + l.length)) ∧ begV m0 = true ∧ ∀ A d' c0, depthV V ≤ d' → c0 + countV V ≤ 8192 → valP d' m0 (pre ++ A) c0 = .ok V A (c0 + countV V)
def Blank (l : List UInt8) : Prop := ∀ c ∈ l, isBlank c = true
theorem blank_stop {c : UInt8} (h : isBlank c = true) : Nm.isN c = false ∧ isLow c = false := ⟨blank_isN h, blank_isLow h⟩
theorem stop_blank {l b : List UInt8} (hl : Blank l) (hb : StopN b) : StopN (l ++ b) := by
  match l with
  | [] => exact hb
  | x :: l => exact fun c r e => by cases e; exact blank_stop (hl x (by simp))
theorem stop_sign {c : UInt8} (r : List UInt8) (h : signOf c ≠ 0) : StopN (c :: r) := fun d r' e => by
  cases e
  have h2 : c.toNat = 123 ∨ c.toNat = 125 ∨ c.toNat = 91 ∨ c.toNat = 93 ∨ c.toNat = 44 ∨ c.toNat = 58 := by
    unfold signOf at h
    repeat' split at h
    all_goals first | omega | exact absurd rfl h
  constructor
  · unfold Nm.isN Nm.dg
    simp
    omega
  · unfold isLow
    simp
    omega
theorem Sp.ahead {V : JV} {l a : List UInt8} (h : Sp V l) (ha : Blank a) : Sp V (a ++ l) := fun q b hb => by
  obtain ⟨m0, pre, h1, h2, h3⟩ := h (q + a.length) b hb
  refine ⟨m0, pre, ?_, h2, h3⟩
  rw [List.append_assoc, lexes_blank a ha, h1, List.length_append, Nat.add_assoc]
theorem Sp.behind {V : JV} {l a : List UInt8} (h : Sp V l) (ha : Blank a) : Sp V (l ++ a) := fun q b hb => by
  obtain ⟨m0, pre, h1, h2, h3⟩ := h q (a ++ b) (stop_blank ha hb)
  refine ⟨m0, pre, ?_, h2, h3⟩
  rw [List.append_assoc, h1, lexes_blank a ha, List.length_append, Nat.add_assoc]
/-- A text that is read says its value. -/
theorem sp_of_read {s : List UInt8} {V : JV} {ms : List Lx} {c : Nat} (h : readV s = .ok V ms c) : Sp V s := fun q b hb => by
  obtain ⟨m0, pre, h1, h2, h3⟩ := value_at h q b hb
  exact ⟨m0, pre, h1, h2, fun A d' c0 g1 g2 => (h3 A d' c0).1 g1 g2⟩
/-- One mark's bytes. -/
theorem lexes_one {l b : List UInt8} {k n : Int} {t : List UInt8} (hne : l ≠ []) (hbl : blanks l = 0) (h : tokP l = ⟨k, l.length, n, t, 0⟩) (hk : k ≠ 11) (hb : StopN b) (q : Nat) : lexes (l ++ b) q = .tok ⟨k, q, q + l.length, n, t⟩ :: lexes b (q + l.length) := by
  have h1 : tokP (l ++ b) = tokP l := tokP_stop l b hne hb (by rw [h]; simp)
  have h2 : blanks (l ++ b) = 0 := by
    match l, hne with
    | c :: r, _ =>
      rw [List.cons_append]
      refine blanks_zero _ ?_
      cases hc : isBlank c with
      | false => rfl
      | true => simp [blanks, hc] at hbl
  have h3 : tokB (l ++ b) = ⟨k, l.length, n, t, 0⟩ := by unfold tokB; rw [h2, List.drop_zero, h1, h]
  rw [lexes_step, h3, h2, if_neg (by simp), if_neg hk]
  simp only [Tok.at, Nat.zero_add, Nat.add_zero, List.drop_left]
theorem sp_leaf {l : List UInt8} {k n : Int} {t : List UInt8} (hne : l ≠ []) (hbl : blanks l = 0) (h : tokP l = ⟨k, l.length, n, t, 0⟩) (hk : k = 7 ∨ k = 8 ∨ k = 9 ∨ k = 10) : Sp (leafV ⟨k, 0, 0, n, t⟩) l := fun q b hb => by
  have hbg : begV ⟨k, q, q + l.length, n, t⟩ = true := by
    unfold begV
    simp only [Bool.or_eq_true, beq_iff_eq]
    omega
  have hc : countV (leafV ⟨k, 0, 0, n, t⟩) = 1 := by
    unfold leafV
    repeat' split
    all_goals rfl
  refine ⟨⟨k, q, q + l.length, n, t⟩, [], lexes_one hne hbl h (by omega) hb q, hbg, fun A d' c0 g1 g2 => ?_⟩
  rw [hc] at g2 ⊢
  unfold valP
  rw [if_neg (by rw [hbg]; simp), if_neg (by omega), if_pos (by show k ≠ 1 ∧ k ≠ 3; omega)]
  rfl
/-- What is read of a text that says a value. -/
theorem Sp.read {V : JV} {l : List UInt8} (h : Sp V l) (hl : l.length ≤ 65536) (hd : depthV V ≤ 12) (hc : countV V ≤ 8192) : ∃ ms, readV l = .ok V ms (countV V) := by
  obtain ⟨m0, pre, h1, -, h3⟩ := h 0 [] (fun c r e => by cases e)
  rw [List.append_nil, lexes_blanks (b := []) (fun c hc => by cases hc)] at h1
  have h4 := h3 [.tok ⟨11, 0 + l.length + 0, 0 + l.length + 0, 0, []⟩] 12 0 hd (by omega)
  refine ⟨[], ?_⟩
  unfold readV
  rw [if_neg (by omega), h1]
  show topP m0 _ = _
  unfold topP
  rw [List.length_nil, h4, Nat.zero_add (countV V)]
  rfl

/-! Lists. -/
inductive Sps : List JV → List (List UInt8) → Prop
  | nil : Sps [] []
  | cons {V : JV} {l : List UInt8} {its : List JV} {ls : List (List UInt8)} : Sp V l → Sps its ls → Sps (V :: its) (l :: ls)
theorem sp_items : ∀ {its : List JV} {ls : List (List UInt8)}, Sps its ls → its ≠ [] → ∀ (q : Nat) (b : List UInt8),
    ∃ m0 pre, lexes (joinC ls ++ 93 :: b) q = .tok m0 :: (pre ++ lexes b (q + (joinC ls).length + 1)) ∧ begV m0 = true ∧ ∀ A d c0 acc f, pre.length < f → depthL its ≤ d → c0 + countL its ≤ 8192 → itemsP (valP d) f m0 (pre ++ A) c0 acc = .ok (listV (acc ++ its)) A (c0 + countL its)
  | _, _, .nil, hne, _, _ => absurd rfl hne
  | _, _, .cons (V := V) (l := l) (its := []) hV .nil, _, q, b => by
    obtain ⟨m0, pre, h1, h2, h3⟩ := hV q (93 :: b) (stop_sign b (by decide))
    have h4 := lexes_sign 93 b (q + l.length) (by decide) (by decide)
    refine ⟨m0, pre ++ [.tok ⟨signOf 93, q + l.length, q + l.length + 1, 0, []⟩], ?_, h2, fun A d c0 acc f hf hd hc => ?_⟩
    · show lexes (l ++ 93 :: b) q = _
      rw [h1, h4, List.append_assoc]
      rfl
    · simp only [depthL, countL] at hd hc
      match f, hf with
      | f + 1, hf =>
        rw [itemsP, List.append_assoc, h3 _ d c0 (by omega) (by omega)]
        simp only [countL, Nat.add_zero]
        rfl
  | _, _, .cons (V := V) (l := l) (its := W :: its) hV (.cons (l := l2) (ls := ls) hW hr), _, q, b => by
    obtain ⟨m1, pre1, i1, i2, i3⟩ := sp_items (.cons hW hr) (by simp) (q + l.length + 1) b
    obtain ⟨m0, pre, h1, h2, h3⟩ := hV q (44 :: (joinC (l2 :: ls) ++ 93 :: b)) (stop_sign _ (by decide))
    have h4 := lexes_sign 44 (joinC (l2 :: ls) ++ 93 :: b) (q + l.length) (by decide) (by decide)
    refine ⟨m0, pre ++ .tok ⟨signOf 44, q + l.length, q + l.length + 1, 0, []⟩ :: .tok m1 :: pre1, ?_, h2, fun A d c0 acc f hf hd hc => ?_⟩
    · have e : joinC (l :: l2 :: ls) = l ++ 44 :: joinC (l2 :: ls) := rfl
      rw [e, List.append_assoc, List.cons_append, h1, h4, i1, List.length_append, List.length_cons]
      rw [show q + l.length + 1 + (joinC (l2 :: ls)).length + 1 = q + (l.length + ((joinC (l2 :: ls)).length + 1)) + 1 by omega]
      simp only [List.append_assoc, List.cons_append]
    · have hd' : depthV V ≤ d ∧ depthL (W :: its) ≤ d := by simp only [depthL] at hd ⊢; omega
      have hc' : c0 + countV V + countL (W :: its) ≤ 8192 ∧ c0 + countV V ≤ 8192 := by simp only [countL] at hc ⊢; omega
      match f, hf with
      | f + 1, hf =>
        rw [itemsP, List.append_assoc, h3 _ d c0 hd'.1 hc'.2]
        have := i3 A d (c0 + countV V) (acc ++ [V]) f (by simp at hf; omega) hd'.2 hc'.1
        rw [List.append_assoc, List.singleton_append] at this
        have e : countL (V :: W :: its) = countV V + countL (W :: its) := by simp only [countL]
        rw [e, ← Nat.add_assoc, ← this]
        rfl
theorem blank_sign {c : UInt8} (h : signOf c ≠ 0) : isBlank c = false := by
  unfold signOf at h
  unfold isBlank
  repeat' split at h
  all_goals first | (simp; omega) | exact absurd rfl h
theorem sp_list {its : List JV} {ls : List (List UInt8)} (h : Sps its ls) {a : List UInt8} (ha : Blank a) : Sp (listV its) (91 :: (a ++ (joinC ls ++ [93]))) := fun q b hb => by
  have h0 : lexes (91 :: (a ++ (joinC ls ++ [93])) ++ b) q = .tok ⟨3, q, q + 1, 0, []⟩ :: lexes (joinC ls ++ 93 :: b) (q + 1 + a.length) := by
    rw [List.cons_append, List.append_assoc, List.append_assoc, List.singleton_append]
    have e := lexes_sign 91 (a ++ (joinC ls ++ 93 :: b)) q (by decide) (by decide)
    rw [lexes_blank a ha] at e
    exact e
  have hk : countV (listV its) = 1 + countL its ∧ depthV (listV its) = depthL its + 1 := ⟨countV_eq _, depthV_eq _⟩
  by_cases hn : its = []
  · subst hn
    cases h
    have h4 := lexes_sign 93 b (q + 1 + a.length) (by decide) (by decide)
    refine ⟨⟨3, q, q + 1, 0, []⟩, [.tok ⟨signOf 93, q + 1 + a.length, q + 1 + a.length + 1, 0, []⟩], ?_, rfl, fun A d' c0 g1 g2 => ?_⟩
    · rw [h0]
      show Lx.tok _ :: lexes (93 :: b) _ = _
      rw [h4, show q + 1 + a.length + 1 = q + (91 :: (a ++ (joinC [] ++ [93]))).length by simp [joinC]; omega]
      rfl
    · rw [hk.1] at g2 ⊢
      rw [hk.2] at g1
      match d', g1 with
      | d' + 1, _ =>
        rw [valP, if_neg (by simp [begV]), if_neg (by omega), if_neg (by simp), if_pos rfl]
        rfl
  · obtain ⟨m0, pre, h1, h2, h3⟩ := sp_items h hn (q + 1 + a.length) b
    obtain ⟨n4, -⟩ := begs_no h2
    refine ⟨⟨3, q, q + 1, 0, []⟩, .tok m0 :: pre, ?_, rfl, fun A d' c0 g1 g2 => ?_⟩
    · rw [h0, h1, show q + 1 + a.length + (joinC ls).length + 1 = q + (91 :: (a ++ (joinC ls ++ [93]))).length by simp; omega]
      rfl
    · rw [hk.1] at g2 ⊢
      rw [hk.2] at g1
      match d', g1 with
      | d' + 1, g1 =>
        rw [valP, if_neg (by simp [begV]), if_neg (by omega), if_neg (by simp), if_pos rfl]
        show listP (valP d') (.tok m0 :: (pre ++ A)) (c0 + 1) = _
        unfold listP
        show (if m0.k = 4 then _ else itemsP (valP d') ((pre ++ A).length + 1) m0 (pre ++ A) (c0 + 1) []) = _
        rw [if_neg n4, h3 A d' (c0 + 1) [] _ (by simp; omega) (by omega) (by omega), List.nil_append, Nat.add_assoc]

/-! Objects. -/
/-- A text that says a name, and the value next to it; behind so many blanks. -/
def SpM (x : Mem) (w : Nat) (l : List UInt8) : Prop := ∃ a q b v, l = a ++ (q ++ (b ++ 58 :: v)) ∧ a.length = w ∧ Blank a ∧ Blank b ∧ q ≠ [] ∧ blanks q = 0 ∧ tokP q = ⟨10, q.length, 0, x.1.data.toList, 0⟩ ∧ Sp x.2 v
theorem sp_mem {x : Mem} {w : Nat} {l : List UInt8} (h : SpM x w l) (q : Nat) (b : List UInt8) (hb : StopN b) :
    ∃ m0 pre, lexes (l ++ b) q = .tok m0 :: (pre ++ lexes b (q + l.length)) ∧ m0.k = 10 ∧ m0.name = x.1 ∧ m0.a = q + w ∧ ∀ A d c acc f, depthV x.2 ≤ d → c + countV x.2 ≤ 8192 → hasN acc x.1 = false →
      membersP (valP d) (f + 1) m0 (pre ++ A) c acc = moreP 2 (fun r => .ok (objV (acc ++ [x])) r (c + countV x.2)) (fun m4 r => membersP (valP d) f m4 r (c + countV x.2) (acc ++ [x])) A := by
  obtain ⟨a, k, e, v, rfl, hw, ha, he, hne, hbl, ht, hv⟩ := h
  have s1 : StopN (e ++ 58 :: (v ++ b)) := stop_blank he (stop_sign _ (by decide))
  have l1 := lexes_one hne hbl ht (by decide) s1 (q + a.length)
  have l2 := lexes_sign 58 (v ++ b) (q + a.length + k.length + e.length) (by decide) (by decide)
  obtain ⟨m1, pre, l3, h2, h3⟩ := hv (q + a.length + k.length + e.length + 1) b hb
  have hname : (⟨10, q + a.length, q + a.length + k.length, 0, x.1.data.toList⟩ : Mk).name = x.1 := (bytes_back x.1).symm
  refine ⟨⟨10, q + a.length, q + a.length + k.length, 0, x.1.data.toList⟩, .tok ⟨signOf 58, q + a.length + k.length + e.length, q + a.length + k.length + e.length + 1, 0, []⟩ :: .tok m1 :: pre, ?_, rfl, hname, by rw [hw], fun A d c acc f hd hc hn => ?_⟩
  · rw [List.append_assoc, lexes_blank a ha, List.append_assoc, List.append_assoc, List.cons_append, l1, lexes_blank e he, l2, l3]
    rw [show q + a.length + k.length + e.length + 1 + v.length = q + (a ++ (k ++ (e ++ 58 :: v))).length by simp; omega]
    rfl
  · rw [membersP, if_neg (by simp), hname, if_neg (by rw [hn]; simp)]
    simp only [List.cons_append, nextL]
    rw [if_neg (by decide), h3 A d c hd hc]
inductive SpMs : List Mem → List (List UInt8) → Prop
  | nil : SpMs [] []
  | cons {x : Mem} {w : Nat} {l : List UInt8} {its : List Mem} {ls : List (List UInt8)} : SpM x w l → SpMs its ls → SpMs (x :: its) (l :: ls)
theorem hasN_no {acc : List Mem} {n : ByteArray} (h : ∀ x ∈ acc, x.1.data.toList ≠ n.data.toList) : hasN acc n = false := by
  unfold hasN
  rw [List.any_eq_false]
  exact fun x hx => by simpa using h x hx
theorem sp_members : ∀ {its : List Mem} {ls : List (List UInt8)}, SpMs its ls → its ≠ [] → ∀ (q : Nat) (b : List UInt8),
    ∃ m0 pre, lexes (joinC ls ++ 125 :: b) q = .tok m0 :: (pre ++ lexes b (q + (joinC ls).length + 1)) ∧ m0.k = 10 ∧ ∀ A d c0 acc f, pre.length < f → depthL (its.map Prod.snd) ≤ d → c0 + countL (its.map Prod.snd) ≤ 8192 → Apart (acc ++ its) → membersP (valP d) f m0 (pre ++ A) c0 acc = .ok (objV (acc ++ its)) A (c0 + countL (its.map Prod.snd))
  | _, _, .nil, hne, _, _ => absurd rfl hne
  | _, _, .cons (x := x) (l := l) (its := []) hV .nil, _, q, b => by
    obtain ⟨m0, pre, h1, h2, -, -, h3⟩ := sp_mem hV q (125 :: b) (stop_sign b (by decide))
    have h4 := lexes_sign 125 b (q + l.length) (by decide) (by decide)
    refine ⟨m0, pre ++ [.tok ⟨signOf 125, q + l.length, q + l.length + 1, 0, []⟩], ?_, h2, fun A d c0 acc f hf hd hc hap => ?_⟩
    · show lexes (l ++ 125 :: b) q = _
      rw [h1, h4, List.append_assoc]
      rfl
    · simp only [List.map_cons, List.map_nil, depthL, countL] at hd hc
      have hn : hasN acc x.1 = false := hasN_no fun y hy => (List.pairwise_append.1 hap).2.2 y hy x (by simp)
      match f, hf with
      | f + 1, hf =>
        rw [List.append_assoc, h3 _ d c0 acc f (by omega) (by omega) hn]
        simp only [List.map_cons, List.map_nil, countL, Nat.add_zero]
        rfl
  | _, _, .cons (x := x) (l := l) (its := y :: its) hV (.cons (l := l2) (ls := ls) hW hr), _, q, b => by
    obtain ⟨m1, pre1, i1, i2, i3⟩ := sp_members (.cons hW hr) (by simp) (q + l.length + 1) b
    obtain ⟨m0, pre, h1, h2, -, -, h3⟩ := sp_mem hV q (44 :: (joinC (l2 :: ls) ++ 125 :: b)) (stop_sign _ (by decide))
    have h4 := lexes_sign 44 (joinC (l2 :: ls) ++ 125 :: b) (q + l.length) (by decide) (by decide)
    refine ⟨m0, pre ++ .tok ⟨signOf 44, q + l.length, q + l.length + 1, 0, []⟩ :: .tok m1 :: pre1, ?_, h2, fun A d c0 acc f hf hd hc hap => ?_⟩
    · have e : joinC (l :: l2 :: ls) = l ++ 44 :: joinC (l2 :: ls) := rfl
      rw [e, List.append_assoc, List.cons_append, h1, h4, i1, List.length_append, List.length_cons]
      rw [show q + l.length + 1 + (joinC (l2 :: ls)).length + 1 = q + (l.length + ((joinC (l2 :: ls)).length + 1)) + 1 by omega]
      simp only [List.append_assoc, List.cons_append]
    · have hd' : depthV x.2 ≤ d ∧ depthL ((y :: its).map Prod.snd) ≤ d := by rw [List.map_cons, depthL] at hd; omega
      have e : countL ((x :: y :: its).map Prod.snd) = countV x.2 + countL ((y :: its).map Prod.snd) := by rw [List.map_cons, countL]
      rw [e] at hc ⊢
      have hn : hasN acc x.1 = false := hasN_no fun z hz => (List.pairwise_append.1 hap).2.2 z hz x (by simp)
      match f, hf with
      | f + 1, hf =>
        rw [List.append_assoc, h3 _ d c0 acc f hd'.1 (by omega) hn]
        have := i3 A d (c0 + countV x.2) (acc ++ [x]) f (by simp at hf; omega) hd'.2 (by omega) (by rw [List.append_assoc]; exact hap)
        rw [List.append_assoc, List.singleton_append] at this
        rw [← Nat.add_assoc, ← this]
        rfl
theorem obj_counts (its : List Mem) : countV (objV its) = 1 + countL (its.map Prod.snd) ∧ depthV (objV its) = depthL (its.map Prod.snd) + 1 := by
  have hp : ((sortM its).map Prod.snd).Perm (its.map Prod.snd) := (sortM_perm its).map _
  have e1 : countV (objV its) = 1 + countL ((sortM its).map Prod.snd) := countV_eq _
  have e2 : depthV (objV its) = depthL ((sortM its).map Prod.snd) + 1 := depthV_eq _
  rw [e1, e2, countL_perm hp, depth_perm hp]
  exact ⟨rfl, rfl⟩
theorem sp_obj {its : List Mem} {ls : List (List UInt8)} (h : SpMs its ls) (hap : Apart its) {a : List UInt8} (ha : Blank a) : Sp (objV its) (123 :: (a ++ (joinC ls ++ [125]))) := fun q b hb => by
  have h0 : lexes (123 :: (a ++ (joinC ls ++ [125])) ++ b) q = .tok ⟨1, q, q + 1, 0, []⟩ :: lexes (joinC ls ++ 125 :: b) (q + 1 + a.length) := by
    rw [List.cons_append, List.append_assoc, List.append_assoc, List.singleton_append]
    have e := lexes_sign 123 (a ++ (joinC ls ++ 125 :: b)) q (by decide) (by decide)
    rw [lexes_blank a ha] at e
    exact e
  have hk := obj_counts its
  by_cases hn : its = []
  · subst hn
    cases h
    have h4 := lexes_sign 125 b (q + 1 + a.length) (by decide) (by decide)
    refine ⟨⟨1, q, q + 1, 0, []⟩, [.tok ⟨signOf 125, q + 1 + a.length, q + 1 + a.length + 1, 0, []⟩], ?_, rfl, fun A d' c0 g1 g2 => ?_⟩
    · rw [h0]
      show Lx.tok _ :: lexes (125 :: b) _ = _
      rw [h4, show q + 1 + a.length + 1 = q + (123 :: (a ++ (joinC [] ++ [125]))).length by simp [joinC]; omega]
      rfl
    · rw [hk.1] at g2 ⊢
      rw [hk.2] at g1
      match d', g1 with
      | d' + 1, _ =>
        rw [valP, if_neg (by simp [begV]), if_neg (by omega), if_neg (by simp), if_neg (by simp)]
        rfl
  · obtain ⟨m0, pre, h1, h2, h3⟩ := sp_members h hn (q + 1 + a.length) b
    refine ⟨⟨1, q, q + 1, 0, []⟩, .tok m0 :: pre, ?_, rfl, fun A d' c0 g1 g2 => ?_⟩
    · rw [h0, h1, show q + 1 + a.length + (joinC ls).length + 1 = q + (123 :: (a ++ (joinC ls ++ [125]))).length by simp; omega]
      rfl
    · rw [hk.1] at g2 ⊢
      rw [hk.2] at g1
      match d', g1 with
      | d' + 1, g1 =>
        rw [valP, if_neg (by simp [begV]), if_neg (by omega), if_neg (by simp), if_neg (by simp)]
        show objP (valP d') (.tok m0 :: (pre ++ A)) (c0 + 1) = _
        unfold objP
        show (if m0.k = 2 then _ else membersP (valP d') ((pre ++ A).length + 1) m0 (pre ++ A) (c0 + 1) []) = _
        rw [if_neg (by omega), h3 A d' (c0 + 1) [] _ (by simp; omega) (by omega) (by omega) hap, List.nil_append, Nat.add_assoc]

/-! Texts. -/
/-- A text, rune by rune, as it stands between quotes. -/
inductive SpT : List UInt8 → List UInt8 → Prop
  | nil : SpT [] []
  | cons {r : Int} {c : UInt8} {x t body : List UInt8} : c.toNat ≠ 34 → (∀ rest, itemP (c :: (x ++ rest)) = (r, x.length + 1, 0)) → SpT t body → SpT (encP r ++ t) (c :: (x ++ body))
theorem strQ_sp {t body : List UInt8} (h : SpT t body) : ∀ (out rest : List UInt8), out.length + t.length ≤ 4096 → strQ (body ++ 34 :: rest) out = (out ++ t, body.length + 1, 0) := by
  induction h with
  | nil =>
    intro out rest _
    rw [List.nil_append, strQ_step, if_pos (by decide), List.append_nil]
    rfl
  | @cons r c x t body h1 h2 _ ih =>
    intro out rest hl
    rw [List.length_append] at hl
    rw [List.cons_append, List.append_assoc, strQ_step, if_neg h1, h2, if_neg (by simp), if_neg (by show ¬ 4096 < out.length + (encP r).length; omega)]
    show strT (strQ (List.drop (x.length + 1) (c :: (x ++ (body ++ 34 :: rest)))) (out ++ encP r)) (x.length + 1) = _
    rw [List.drop_succ_cons, List.drop_left, ih (out ++ encP r) rest (by rw [List.length_append]; omega)]
    unfold strT
    rw [if_neg (by simp), List.append_assoc]
    simp only [List.length_cons, List.length_append]
    rw [show body.length + 1 + (x.length + 1) = x.length + body.length + 1 + 1 by omega]
theorem tok_sp {t body : List UInt8} (h : SpT t body) (ht : t.length ≤ 4096) : tokP (34 :: (body ++ [34])) = ⟨10, (34 :: (body ++ [34])).length, 0, t, 0⟩ := by
  have h1 := strQ_sp h [] [] (by simpa using ht)
  rw [List.nil_append] at h1
  rw [tokP, if_neg (by decide), if_pos (by decide), textP_eq, h1, if_neg (by simp)]
  simp
theorem blanks_quote (r : List UInt8) : blanks (34 :: r) = 0 := blanks_zero r (by decide)
theorem sp_text {t body : List UInt8} (h : SpT t body) (ht : t.length ≤ 4096) : Sp (.mk 3 0 ⟨t.toArray⟩ [] []) (34 :: (body ++ [34])) :=
  sp_leaf (by simp) (blanks_quote _) (tok_sp h ht) (by simp)
theorem sp_true : Sp (.mk 1 1 ⟨#[]⟩ [] []) [116, 114, 117, 101] := sp_leaf (l := [116, 114, 117, 101]) (k := 7) (n := 0) (t := []) (by simp) (by decide) rfl (by simp)
theorem sp_false : Sp (.mk 1 0 ⟨#[]⟩ [] []) [102, 97, 108, 115, 101] := sp_leaf (l := [102, 97, 108, 115, 101]) (k := 8) (n := 0) (t := []) (by simp) (by decide) rfl (by simp)
theorem tw_same {p : UInt8 → Bool} : ∀ {l : List UInt8}, l.all p = true → l.takeWhile p = l
  | [], _ => rfl
  | c :: l, h => by
    rw [List.all_cons, Bool.and_eq_true] at h
    rw [List.takeWhile_cons, if_pos h.1, tw_same h.2]
theorem isN_no {c : UInt8} (h : Nm.isN c = true) : isBlank c = false ∧ signOf c = 0 ∧ c.toNat ≠ 34 := by
  have hc := u8_lt c
  unfold Nm.isN Nm.dg at h
  simp at h
  refine ⟨?_, ?_, by omega⟩
  · unfold isBlank
    simp
    omega
  · unfold signOf
    repeat' split
    all_goals first | rfl | omega
theorem itoa_first (n : Int) : ∃ c r, Lib.itoa n = c :: r ∧ numFirst c = true ∧ Nm.isN c = true := by
  obtain ⟨h1, h2, h3, h4⟩ := Nm.itoa_form n
  match hi : Lib.itoa n, h4 with
  | c :: r, _ =>
    rw [hi] at h1 h3
    rw [List.all_cons, Bool.and_eq_true] at h3
    refine ⟨c, r, rfl, ?_, h3.1⟩
    unfold numFirst
    by_cases e : c.toNat = 45
    · simp [e]
    · obtain ⟨p1, p2, p3⟩ := Nm.form_parts h1
      rw [Nm.body_pos (by simpa using e)] at p2
      rw [List.all_cons, Bool.and_eq_true] at p2
      simp [p2.1]
theorem sp_num {n : Int} (h0 : -9223372036854775808 ≤ n) (h1 : n ≤ 9223372036854775807) : Sp (.mk 2 n ⟨#[]⟩ [] []) (Lib.itoa n) := by
  obtain ⟨f1, f2, f3, f4⟩ := Nm.itoa_form n
  obtain ⟨c, r, hi, hc, hn⟩ := itoa_first n
  obtain ⟨b1, b2, b3⟩ := isN_no hn
  refine sp_leaf (k := 9) (n := n) (t := []) f4 (by rw [hi]; exact blanks_zero r b1) ?_ (by simp)
  rw [hi, tokP, if_neg (by omega), if_neg b3, if_pos hc, ← hi, numP, tw_same f3, f1, f2, if_neg (by simp), if_pos ⟨h0, h1⟩]
end Go.Proofs.YtfdecbfcddkoiaaGreatDoor
