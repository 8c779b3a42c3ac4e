/-
 Reading hangs on the places of the marks only in the place that it tells: marks that are moved are read alike.
-/
import Derived.Test.YtmggmpigpiaagaaGreatDoorReadP
namespace Go.Proofs.YtmggmpigpiaagaaGreatDoor
open Go.RowKit
def Lx.at : Lx → Nat
 | .tok m => m.a
 | .err p _ => p
structure Moves (F : Lx → Lx) : Prop where
 tok : ∀ m, ∃ m', F (.tok m) = .tok m' ∧ m'.k = m.k ∧ m'.n = m.n ∧ m'.t = m.t
 err : ∀ p e, ∃ p', F (.err p e) = .err p' e
def RelF {α : Type} (F : Lx → Lx) (L : List Lx) (R R' : PR α) : Prop :=
 match R with
 | .bad p e => e ≠ 0 → ∃ x ∈ L, x.at = p ∧ R' = .bad (F x).at e
 | .ok v ms c => R' = .ok v (ms.map F) c
theorem RelF.mono {α : Type} {F : Lx → Lx} {L L2 : List Lx} {R R' : PR α} (h : RelF F L R R') (hs : ∀ x ∈ L, x ∈ L2) : RelF F L2 R R' := by
 cases R with
 | bad p e => exact fun he => by obtain ⟨x, hx, h1, h2⟩ := h he; exact ⟨x, hs x hx, h1, h2⟩
 | ok v ms c => exact h
theorem rel_bad {α : Type} {F : Lx → Lx} {L : List Lx} {m m' : Mk} {e : Int} (hm : F (.tok m) = .tok m') (hx : Lx.tok m ∈ L) : RelF F L (.bad m.a e : PR α) (.bad m'.a e) := fun _ => ⟨.tok m, hx, rfl, by rw [hm]; rfl⟩
theorem rel_next {α : Type} {F : Lx → Lx} (hF : Moves F) {f f' : Mk → List Lx → PR α} {ms : List Lx} (h : ∀ m m' r, F (.tok m) = .tok m' → m'.k = m.k → m'.n = m.n → m'.t = m.t → ms = .tok m :: r → RelF F (.tok m :: r) (f m r) (f' m' (r.map F))) : RelF F ms (nextL f ms) (nextL f' (ms.map F)) := by
 match ms, h with
 | [], _ => exact fun he => absurd rfl he
 | .err p e :: r, _ =>
   obtain ⟨p', hp⟩ := hF.err p e
   simp only [List.map_cons, hp, nextL]
   exact fun he => ⟨.err p e, by simp, rfl, by rw [hp]; rfl⟩
 | .tok m :: r, h =>
   obtain ⟨m', hm, h1, h2, h3⟩ := hF.tok m
   simp only [List.map_cons, hm, nextL]
   exact h m m' r hm h1 h2 h3 rfl
theorem wrongE_same {m m' : Mk} (h : m'.k = m.k) (e : Int) : wrongE m' e = wrongE m e := by unfold wrongE; rw [h]
def ValMove (F : Lx → Lx) (val : Mk → List Lx → Nat → PR JV) : Prop := ∀ m m' ms c, F (.tok m) = .tok m' → m'.k = m.k → m'.n = m.n → m'.t = m.t → RelF F (.tok m :: ms) (val m ms c) (val m' (ms.map F) c)
theorem rel_more {α : Type} {F : Lx → Lx} (hF : Moves F) (last : Int) {fin fin' : List Lx → PR α} {go go' : Mk → List Lx → PR α} {ms : List Lx} (h1 : ∀ m r, ms = .tok m :: r → RelF F ms (fin r) (fin' (r.map F)))
   (h2 : ∀ m0 m m' r, F (.tok m) = .tok m' → m'.k = m.k → m'.n = m.n → m'.t = m.t → ms = .tok m0 :: .tok m :: r → RelF F (.tok m :: r) (go m r) (go' m' (r.map F))) : RelF F ms (moreP last fin go ms) (moreP last fin' go' (ms.map F)) := by
 unfold moreP
 refine rel_next hF fun m m' r hm hk _ _ hms => ?_
 subst hms
 rw [hk]
 by_cases g1 : m.k = last
 · rw [if_pos g1, if_pos g1]
   exact h1 m r rfl
 rw [if_neg g1, if_neg g1]
 by_cases g2 : m.k = 5
 · rw [if_pos g2, if_pos g2]
   refine (rel_next hF fun m3 m3' r3 hm3 k1 k2 k3 hr => ?_).mono (fun x hx => by simp [hx])
   exact h2 m m3 m3' r3 hm3 k1 k2 k3 (by rw [hr])
 · rw [if_neg g2, if_neg g2, wrongE_same hk]
   exact rel_bad hm (by simp)
theorem items_move {F : Lx → Lx} (hF : Moves F) {val : Mk → List Lx → Nat → PR JV} (hv : ValMove F val) (ht : ValTakes val) : ∀ (f : Nat) (m m' : Mk) (ms : List Lx) (c : Nat) (acc : List JV), F (.tok m) = .tok m' → m'.k = m.k → m'.n = m.n → m'.t = m.t →
   RelF F (.tok m :: ms) (itemsP val f m ms c acc) (itemsP val f m' (ms.map F) c acc)
 | 0, _, _, _, _, _, _, _, _, _ => fun he => absurd rfl he
 | f + 1, m, m', ms, c, acc, hm, k1, k2, k3 => by
   have hr := hv m m' ms c hm k1 k2 k3
   rw [itemsP, itemsP]
   cases hval : val m ms c with
   | bad p e =>
     rw [hval] at hr
     intro he
     obtain ⟨x, hx, h1, h2⟩ := hr he
     exact ⟨x, hx, h1, by rw [h2]⟩
   | ok v ms1 c1 =>
     rw [hval] at hr
     obtain ⟨pre, -, hp, -⟩ := ht m ms c v ms1 c1 hval
     have hr' : val m' (ms.map F) c = .ok v (ms1.map F) c1 := hr
     rw [hr']
     refine (rel_more hF 4 (fun m2 r _ => by exact rfl) fun m0 m2 m2' r hm2 j1 j2 j3 _ => ?_).mono (fun x hx => by rw [hp]; simp [hx])
     exact items_move hF hv ht f m2 m2' r c1 _ hm2 j1 j2 j3
theorem name_same {m m' : Mk} (h : m'.t = m.t) : m'.name = m.name := by unfold Mk.name; rw [h]
theorem members_move {F : Lx → Lx} (hF : Moves F) {val : Mk → List Lx → Nat → PR JV} (hv : ValMove F val) (ht : ValTakes val) : ∀ (f : Nat) (m m' : Mk) (ms : List Lx) (c : Nat) (acc : List Mem), F (.tok m) = .tok m' → m'.k = m.k → m'.n = m.n → m'.t = m.t →
   RelF F (.tok m :: ms) (membersP val f m ms c acc) (membersP val f m' (ms.map F) c acc)
 | 0, _, _, _, _, _, _, _, _, _ => fun he => absurd rfl he
 | f + 1, m, m', ms, c, acc, hm, k1, k2, k3 => by
   rw [membersP, membersP, k1, name_same k3, wrongE_same k1]
   by_cases h10 : m.k ≠ 10
   · rw [if_pos h10, if_pos h10]
     exact rel_bad hm (by simp)
   rw [if_neg h10, if_neg h10]
   by_cases hn : hasN acc m.name = true
   · rw [if_pos hn, if_pos hn]
     exact rel_bad hm (by simp)
   rw [if_neg hn, if_neg hn]
   refine (rel_next hF fun m2 m2' r2 hm2 i1 _ _ hms2 => ?_).mono (fun x hx => by simp [hx])
   rw [i1, wrongE_same i1]
   by_cases h6 : m2.k ≠ 6
   · rw [if_pos h6, if_pos h6]
     exact rel_bad hm2 (by simp)
   rw [if_neg h6, if_neg h6]
   refine (rel_next hF fun m3 m3' r3 hm3 j1 j2 j3 hms3 => ?_).mono (fun x hx => by simp [hx])
   have hr := hv m3 m3' r3 c hm3 j1 j2 j3
   cases hval : val m3 r3 c with
   | bad p e =>
     rw [hval] at hr
     intro he
     obtain ⟨x, hx, h1, h2⟩ := hr he
     exact ⟨x, hx, h1, by rw [h2]⟩
   | ok v ms1 c1 =>
     rw [hval] at hr
     obtain ⟨pre, -, hp, -⟩ := ht m3 r3 c v ms1 c1 hval
     have hr' : val m3' (r3.map F) c = .ok v (ms1.map F) c1 := hr
     rw [hr']
     refine (rel_more hF 2 (fun m4 r _ => by exact rfl) fun m0 m4 m4' r hm4 l1 l2 l3 _ => ?_).mono (fun x hx => by rw [hp]; simp [hx])
     exact members_move hF hv ht f m4 m4' r c1 _ hm4 l1 l2 l3
theorem begV_same {m m' : Mk} (h : m'.k = m.k) : begV m' = begV m := by unfold begV; rw [h]
theorem leafV_same {m m' : Mk} (h : m'.k = m.k) (h2 : m'.n = m.n) (h3 : m'.t = m.t) : leafV m' = leafV m := by unfold leafV; rw [h, h2, name_same h3]
theorem val_move {F : Lx → Lx} (hF : Moves F) : ∀ d, ValMove F (valP d)
 | d, m, m', ms, c, hm, k1, k2, k3 => by
   unfold valP
   rw [begV_same k1, wrongE_same k1, k1, leafV_same k1 k2 k3]
   by_cases h1 : begV m = false
   · rw [if_pos h1, if_pos h1]
     exact rel_bad hm (by simp)
   rw [if_neg h1, if_neg h1]
   by_cases h2 : 8192 ≤ c
   · rw [if_pos h2, if_pos h2]
     exact rel_bad hm (by simp)
   rw [if_neg h2, if_neg h2]
   by_cases h3 : m.k ≠ 1 ∧ m.k ≠ 3
   · rw [if_pos h3, if_pos h3]
     exact rfl
   rw [if_neg h3, if_neg h3]
   match d with
   | 0 => exact rel_bad hm (by simp)
   | d + 1 =>
     dsimp only
     by_cases h4 : m.k = 3
     · rw [if_pos h4, if_pos h4]
       unfold listP
       refine (rel_next hF fun m2 m2' r hm2 j1 j2 j3 hms => ?_).mono (fun x hx => by simp [hx])
       rw [j1, List.length_map]
       by_cases g : m2.k = 4
       · rw [if_pos g, if_pos g]; exact rfl
       · rw [if_neg g, if_neg g]
         exact items_move hF (val_move hF d) (val_takes d) _ _ _ _ _ _ hm2 j1 j2 j3
     · rw [if_neg h4, if_neg h4]
       unfold objP
       refine (rel_next hF fun m2 m2' r hm2 j1 j2 j3 hms => ?_).mono (fun x hx => by simp [hx])
       rw [j1, List.length_map]
       by_cases g : m2.k = 2
       · rw [if_pos g, if_pos g]; exact rfl
       · rw [if_neg g, if_neg g]
         exact members_move hF (val_move hF d) (val_takes d) _ _ _ _ _ _ hm2 j1 j2 j3
theorem top_move {F : Lx → Lx} (hF : Moves F) (L : List Lx) : RelF F L (nextL topP L) (nextL topP (L.map F)) := by
 refine rel_next hF fun m m' r hm k1 k2 k3 hL => ?_
 unfold topP
 have hr := val_move hF 12 m m' r 0 hm k1 k2 k3
 cases hval : valP 12 m r 0 with
 | bad p e =>
   rw [hval] at hr
   intro he
   obtain ⟨x, hx, h1, h2⟩ := hr he
   exact ⟨x, hx, h1, by rw [h2]⟩
 | ok v ms1 c1 =>
   rw [hval] at hr
   obtain ⟨pre, -, hp, -⟩ := val_takes 12 m r 0 v ms1 c1 hval
   have hr' : valP 12 m' (r.map F) 0 = .ok v (ms1.map F) c1 := hr
   rw [hr']
   unfold endP
   refine (rel_next hF fun m2 m2' r2 hm2 j1 _ _ hms => ?_).mono (fun x hx => by rw [hp]; simp [hx])
   rw [j1]
   by_cases g : m2.k ≠ 11
   · rw [if_pos g, if_pos g]
     exact rel_bad hm2 (by simp)
   · rw [if_neg g, if_neg g]; exact rfl
/-! Blanks ahead. -/
def Lx.far (d : Nat) : Lx → Lx
 | .tok m => .tok (m.far d)
 | .err p e => .err (p + d) e
theorem far_moves (d : Nat) : Moves (Lx.far d) := ⟨fun m => ⟨m.far d, rfl, rfl, rfl, rfl⟩, fun p _e => ⟨p + d, rfl⟩⟩
theorem far_at (d : Nat) (x : Lx) : (x.far d).at = x.at + d := by cases x <;> rfl
theorem lexes_far (d : Nat) : ∀ (n : Nat) (l : List UInt8) (p : Nat), l.length ≤ n → lexes l (p + d) = (lexes l p).map (Lx.far d)
 | n, l, p, hn => by
   rw [lexes_step l (p + d), lexes_step l p]
   by_cases h1 : (tokB l).e ≠ 0
   · rw [if_pos h1, if_pos h1]
     simp only [List.map_cons, List.map_nil, Lx.far]
     rw [show p + d + blanks l = p + blanks l + d by omega]
   rw [if_neg h1, if_neg h1]
   have e1 : (tokB l).at (p + d + blanks l) = ((tokB l).at (p + blanks l)).far d := by
     unfold Tok.at Mk.far
     simp only [Mk.mk.injEq, true_and, and_true]
     omega
   by_cases h2 : (tokB l).k = 11
   · rw [if_pos h2, if_pos h2]
     simp only [List.map_cons, List.map_nil, Lx.far, e1]
   · rw [if_neg h2, if_neg h2]
     have h0 : (tokB l).e = 0 := Classical.not_not.1 h1
     have hne : l.drop (blanks l) ≠ [] := fun e => h2 ((tok_end h0).2 e)
     obtain ⟨k1, k2, _⟩ := tokP_ok hne h0
     have j1 : 1 ≤ (tokB l).len := k1
     have j2 : (tokB l).len ≤ l.length - blanks l := by rw [List.length_drop] at k2; exact k2
     match n, hn with
     | 0, hn => omega
     | n + 1, hn =>
       have := lexes_far d n (l.drop (blanks l + (tokB l).len)) (p + blanks l + (tokB l).len) (by rw [List.length_drop]; omega)
       rw [show p + blanks l + (tokB l).len + d = p + d + blanks l + (tokB l).len by omega] at this
       simp only [List.map_cons, Lx.far, e1, this]
theorem blanks_ahead {s b : List UInt8} (hb : ∀ c ∈ b, isBlank c = true) (hl : (b ++ s).length ≤ 65536) : RelF (Lx.far b.length) (lexes s 0) (readV s) (readV (b ++ s)) := by
 unfold readV
 rw [if_neg (by rw [List.length_append] at hl; omega), if_neg (by omega), lexes_blank b hb s 0, lexes_far b.length s.length s 0 (Nat.le_refl _)]
 exact top_move (far_moves _) _
theorem ahead_bad {s b : List UInt8} (hb : ∀ c ∈ b, isBlank c = true) (hl : (b ++ s).length ≤ 65536) {p : Nat} {e : Int} (h : readV s = .bad p e) (he : e ≠ 0) : readV (b ++ s) = .bad (p + b.length) e := by
 have := blanks_ahead hb hl
 rw [h] at this
 obtain ⟨x, -, h1, h2⟩ := this he
 rw [h2, far_at, h1]
theorem ahead_ok {s b : List UInt8} (hb : ∀ c ∈ b, isBlank c = true) (hl : (b ++ s).length ≤ 65536) {V : JV} {ms : List Lx} {c : Nat} (h : readV s = .ok V ms c) : ∃ ms', readV (b ++ s) = .ok V ms' c := by
 have := blanks_ahead hb hl
 rw [h] at this
 exact ⟨_, this⟩
/-! Blanks behind. -/
theorem lexes_blanks {b : List UInt8} (hb : ∀ c ∈ b, isBlank c = true) (p : Nat) : lexes b p = [.tok ⟨11, p + b.length, p + b.length, 0, []⟩] := by
 have h := lexes_blank b hb [] p
 rw [List.append_nil] at h
 rw [h]
 rfl
theorem ahead_blanks {b : List UInt8} (hb : ∀ c ∈ b, isBlank c = true) : Ahead b := fun c r e => hb c (by rw [e]; simp)
theorem behind_ok {s b : List UInt8} (hb : ∀ c ∈ b, isBlank c = true) (hl : (s ++ b).length ≤ 65536) {V : JV} {ms : List Lx} {c : Nat} (h : readV s = .ok V ms c) : ∃ ms', readV (s ++ b) = .ok V ms' c := by
 obtain ⟨-, m0, pre, hlex, ht, hp⟩ := readV_ok h
 have hlex' : lexes s 0 = (.tok m0 :: pre) ++ .tok ⟨11, s.length, s.length, 0, []⟩ :: [] := by rw [hlex]; rfl
 obtain ⟨-, -, e⟩ := lexes_app b (ahead_blanks hb) (.tok m0 :: pre) s 0 _ [] (toks_cons ht) hlex' rfl
 rw [lexes_blanks hb] at e
 unfold readV
 rw [if_neg (by omega), e]
 refine ⟨[], ?_⟩
 show topP m0 (pre ++ _) = _
 unfold topP
 rw [hp]
 rfl
end Go.Proofs.YtmggmpigpiaagaaGreatDoor
