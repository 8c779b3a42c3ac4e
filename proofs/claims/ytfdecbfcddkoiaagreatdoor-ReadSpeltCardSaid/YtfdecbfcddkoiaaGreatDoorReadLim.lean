/-
  What is read, is read within other lists too, if it is not too much, or too deep; the marks of texts put together.
-/
import Derived.Test.YtfdecbfcddkoiaaGreatDoorReadMayP
import Derived.Test.YtfdecbfcddkoiaaGreatDoorReadMove
namespace Go.Proofs.YtfdecbfcddkoiaaGreatDoor
open Go.RowKit

/-- How a value is read with so many lists and objects left, when so many values have begun. -/
def Lim (d' c0 : Nat) (V : JV) (A L : List Lx) (R : PR JV) : Prop :=
  (depthV V ≤ d' → c0 + countV V ≤ 8192 → R = .ok V A (c0 + countV V)) ∧ (¬ (depthV V ≤ d' ∧ c0 + countV V ≤ 8192) → ∃ x ∈ L, ∃ e, R = .bad x.at e ∧ ((e = 5 ∧ 8192 < c0 + countV V) ∨ (e = 8 ∧ d' < depthV V)))
def LimL (d' c0 : Nat) (its : List JV) (V : JV) (A L : List Lx) (R : PR JV) : Prop :=
  (depthL its ≤ d' → c0 + countL its ≤ 8192 → R = .ok V A (c0 + countL its)) ∧ (¬ (depthL its ≤ d' ∧ c0 + countL its ≤ 8192) → ∃ x ∈ L, ∃ e, R = .bad x.at e ∧ ((e = 5 ∧ 8192 < c0 + countL its) ∨ (e = 8 ∧ d' < depthL its)))
theorem LimL.mono {d' c0 : Nat} {its : List JV} {V : JV} {A L L2 : List Lx} {R : PR JV} (h : LimL d' c0 its V A L R) (hs : ∀ x ∈ L, x ∈ L2) : LimL d' c0 its V A L2 R :=
  ⟨h.1, fun hn => by obtain ⟨x, hx, e, h1⟩ := h.2 hn; exact ⟨x, hs x hx, e, h1⟩⟩
def ValLim (d : Nat) : Prop := ∀ m ms c V A c', valP d m ms c = .ok V A c' → ∀ d' c0, Lim d' c0 V A (.tok m :: ms) (valP d' m ms c0)
theorem countV_pos (V : JV) : 1 ≤ countV V := by rw [countV_eq]; omega
theorem items_lim {d : Nat} (hv : ValLim d) : ∀ (f : Nat) (m : Mk) (ms : List Lx) (c : Nat) (acc : List JV) (V : JV) (A : List Lx) (c' : Nat), itemsP (valP d) f m ms c acc = .ok V A c' →
    ∃ its, V = listV (acc ++ its) ∧ ∀ d' c0, LimL d' c0 its V A (.tok m :: ms) (itemsP (valP d') f m ms c0 acc)
  | 0, _, _, _, _, _, _, _, h => by simp [itemsP] at h
  | f + 1, m, ms, c, acc, V, A, c', h => by
    rw [itemsP] at h
    cases hval : valP d m ms c with
    | bad p e => rw [hval] at h; simp at h
    | ok u ms1 c1 =>
      rw [hval] at h
      have hlim := hv m ms c u ms1 c1 hval
      obtain ⟨pre, -, hp, -⟩ := val_takes d m ms c u ms1 c1 hval
      simp only [moreP] at h
      obtain ⟨m2, r2, ee, h'⟩ := nextL_ok h
      subst ee
      by_cases k4 : m2.k = 4
      · rw [if_pos k4] at h'
        simp only [PR.ok.injEq] at h'
        obtain ⟨rfl, rfl, rfl⟩ := h'
        refine ⟨[u], rfl, fun d' c0 => ?_⟩
        obtain ⟨l1, l2⟩ := hlim d' c0
        refine ⟨fun g1 g2 => ?_, fun hn => ?_⟩
        · simp only [depthL, countL] at g1 g2
          rw [itemsP, l1 (by omega) (by omega)]
          show (if m2.k = 4 then _ else _) = _
          rw [if_pos k4]
          simp only [countL, Nat.add_zero]
        · simp only [depthL, countL] at hn
          obtain ⟨x, hx, e, hR, he⟩ := l2 (by omega)
          refine ⟨x, hx, e, by rw [itemsP, hR], ?_⟩
          simp only [depthL, countL]
          omega
      · rw [if_neg k4] at h'
        by_cases k5 : m2.k = 5
        · rw [if_pos k5] at h'
          obtain ⟨m3, r3, ee3, h''⟩ := nextL_ok h'
          subst ee3
          obtain ⟨its, hV, hl⟩ := items_lim hv f m3 r3 c1 _ V A c' h''
          refine ⟨u :: its, by rw [hV]; simp, fun d' c0 => ?_⟩
          obtain ⟨l1, l2⟩ := hlim d' c0
          by_cases hfit : depthV u ≤ d' ∧ c0 + countV u ≤ 8192
          · have e1 : itemsP (valP d') (f + 1) m ms c0 acc = itemsP (valP d') f m3 r3 (c0 + countV u) (acc ++ [u]) := by
              rw [itemsP, l1 hfit.1 hfit.2]
              show (if m2.k = 4 then _ else if m2.k = 5 then _ else _) = _
              rw [if_neg k4, if_pos k5]
              rfl
            obtain ⟨j1, j2⟩ := hl d' (c0 + countV u)
            rw [e1]
            refine ⟨fun g1 g2 => ?_, fun hn => ?_⟩
            · simp only [depthL, countL] at g1 g2
              rw [j1 (by omega) (by omega)]
              simp only [countL]
              rw [Nat.add_assoc]
            · simp only [depthL, countL] at hn
              obtain ⟨x, hx, e, hR, he⟩ := j2 (by omega)
              refine ⟨x, by rw [hp]; simp at hx ⊢; rcases hx with hx | hx <;> simp [hx], e, hR, ?_⟩
              simp only [depthL, countL]
              omega
          · obtain ⟨x, hx, e, hR, he⟩ := l2 hfit
            have hb : itemsP (valP d') (f + 1) m ms c0 acc = .bad x.at e := by rw [itemsP, hR]
            rw [hb]
            refine ⟨fun g1 g2 => ?_, fun hn => ⟨x, hx, e, rfl, ?_⟩⟩
            · simp only [depthL, countL] at g1 g2
              exact absurd ⟨by omega, by omega⟩ hfit
            · simp only [depthL, countL]
              omega
        · rw [if_neg k5] at h'
          simp at h'
theorem depth_perm {l l' : List JV} (h : l.Perm l') : depthL l = depthL l' := by
  induction h with
  | nil => rfl
  | cons x _ ih => rw [depthL, depthL, ih]
  | swap x y l => simp only [depthL]; omega
  | trans _ _ a b => exact a.trans b
theorem members_lim {d : Nat} (hv : ValLim d) : ∀ (f : Nat) (m : Mk) (ms : List Lx) (c : Nat) (acc : List Mem) (V : JV) (A : List Lx) (c' : Nat), membersP (valP d) f m ms c acc = .ok V A c' →
    ∃ its : List Mem, V = objV (acc ++ its) ∧ ∀ d' c0, LimL d' c0 (its.map Prod.snd) V A (.tok m :: ms) (membersP (valP d') f m ms c0 acc)
  | 0, _, _, _, _, _, _, _, h => by simp [membersP] at h
  | f + 1, m, ms, c, acc, V, A, c', h => by
    rw [membersP] at h
    by_cases h10 : m.k ≠ 10
    · rw [if_pos h10] at h; simp at h
    rw [if_neg h10] at h
    by_cases hnn : hasN acc m.name = true
    · rw [if_pos hnn] at h; simp at h
    rw [if_neg hnn] at h
    obtain ⟨m2, r2, ee, h'⟩ := nextL_ok h
    subst ee
    by_cases h6 : m2.k ≠ 6
    · rw [if_pos h6] at h'; simp at h'
    rw [if_neg h6] at h'
    obtain ⟨m3, r3, ee3, h''⟩ := nextL_ok h'
    subst ee3
    have e0 : ∀ (d' c0 : Nat), membersP (valP d') (f + 1) m (.tok m2 :: .tok m3 :: r3) c0 acc = match valP d' m3 r3 c0 with
        | .bad p e => .bad p e
        | .ok v ms c => moreP 2 (fun r => .ok (objV (acc ++ [(m.name, v)])) r c) (fun m4 r => membersP (valP d') f m4 r c (acc ++ [(m.name, v)])) ms := fun d' c0 => by
      rw [membersP, if_neg h10, if_neg hnn]
      show (if m2.k ≠ 6 then _ else _) = _
      rw [if_neg h6]
      rfl
    cases hval : valP d m3 r3 c with
    | bad p e => rw [hval] at h''; simp at h''
    | ok u ms1 c1 =>
      rw [hval] at h''
      have hlim := hv m3 r3 c u ms1 c1 hval
      obtain ⟨pre, -, hp, -⟩ := val_takes d m3 r3 c u ms1 c1 hval
      simp only [moreP] at h''
      obtain ⟨m4, r4, ee4, h4⟩ := nextL_ok h''
      subst ee4
      by_cases k2 : m4.k = 2
      · rw [if_pos k2] at h4
        simp only [PR.ok.injEq] at h4
        obtain ⟨rfl, rfl, rfl⟩ := h4
        refine ⟨[(m.name, u)], rfl, fun d' c0 => ?_⟩
        obtain ⟨l1, l2⟩ := hlim d' c0
        rw [e0]
        refine ⟨fun g1 g2 => ?_, fun hn => ?_⟩
        · simp only [List.map_cons, List.map_nil, depthL, countL] at g1 g2
          rw [l1 (by omega) (by omega)]
          show (if m4.k = 2 then _ else _) = _
          rw [if_pos k2]
          simp only [List.map_cons, List.map_nil, countL, Nat.add_zero]
        · simp only [List.map_cons, List.map_nil, depthL, countL] at hn
          obtain ⟨x, hx, e, hR, he⟩ := l2 (by omega)
          refine ⟨x, by simp at hx ⊢; rcases hx with hx | hx <;> simp [hx], e, by rw [hR], ?_⟩
          simp only [List.map_cons, List.map_nil, depthL, countL]
          omega
      · rw [if_neg k2] at h4
        by_cases k5 : m4.k = 5
        · rw [if_pos k5] at h4
          obtain ⟨m5, r5, ee5, h5⟩ := nextL_ok h4
          subst ee5
          obtain ⟨its, hV, hl⟩ := members_lim hv f m5 r5 c1 _ V A c' h5
          refine ⟨(m.name, u) :: its, by rw [hV]; simp, fun d' c0 => ?_⟩
          obtain ⟨l1, l2⟩ := hlim d' c0
          rw [e0]
          by_cases hfit : depthV u ≤ d' ∧ c0 + countV u ≤ 8192
          · rw [l1 hfit.1 hfit.2]
            have e1 : moreP 2 (fun r => PR.ok (objV (acc ++ [(m.name, u)])) r (c0 + countV u)) (fun m4 r => membersP (valP d') f m4 r (c0 + countV u) (acc ++ [(m.name, u)])) (.tok m4 :: .tok m5 :: r5) = membersP (valP d') f m5 r5 (c0 + countV u) (acc ++ [(m.name, u)]) := by
              show (if m4.k = 2 then _ else if m4.k = 5 then _ else _) = _
              rw [if_neg k2, if_pos k5]
              rfl
            obtain ⟨j1, j2⟩ := hl d' (c0 + countV u)
            show LimL _ _ _ _ _ _ (moreP _ _ _ _)
            rw [e1]
            refine ⟨fun g1 g2 => ?_, fun hn => ?_⟩
            · simp only [List.map_cons, depthL, countL] at g1 g2
              rw [j1 (by omega) (by omega)]
              simp only [List.map_cons, countL]
              rw [Nat.add_assoc]
            · simp only [List.map_cons, depthL, countL] at hn
              obtain ⟨x, hx, e, hR, he⟩ := j2 (by omega)
              refine ⟨x, by rw [hp]; simp at hx ⊢; rcases hx with hx | hx <;> simp [hx], e, hR, ?_⟩
              simp only [List.map_cons, depthL, countL]
              omega
          · obtain ⟨x, hx, e, hR, he⟩ := l2 hfit
            rw [hR]
            refine ⟨fun g1 g2 => ?_, fun hn => ⟨x, by simp at hx ⊢; rcases hx with hx | hx <;> simp [hx], e, rfl, ?_⟩⟩
            · simp only [List.map_cons, depthL, countL] at g1 g2
              exact absurd ⟨by omega, by omega⟩ hfit
            · simp only [List.map_cons, depthL, countL]
              omega
        · rw [if_neg k5] at h4
          simp at h4
/-- A list or an object, from the limits of what it holds. -/
theorem lim_go {m : Mk} {ms : List Lx} {V : JV} {A : List Lx} {dl cl : Nat} (h1 : ¬ begV m = false) (h3 : ¬ (m.k ≠ 1 ∧ m.k ≠ 3)) (hd : depthV V = dl + 1) (hc : countV V = 1 + cl)
    (hg : ∀ d' c0, c0 ≤ 8192 → (dl ≤ d' → c0 + cl ≤ 8192 → (if m.k = 3 then listP (valP d') ms c0 else objP (valP d') ms c0) = .ok V A (c0 + cl)) ∧ (¬ (dl ≤ d' ∧ c0 + cl ≤ 8192) → ∃ x ∈ (.tok m :: ms : List Lx), ∃ e, (if m.k = 3 then listP (valP d') ms c0 else objP (valP d') ms c0) = .bad x.at e ∧ ((e = 5 ∧ 8192 < c0 + cl) ∨ (e = 8 ∧ d' < dl)))) (d' c0 : Nat) : Lim d' c0 V A (.tok m :: ms) (valP d' m ms c0) := by
  unfold valP
  rw [if_neg h1]
  by_cases h2 : 8192 ≤ c0
  · rw [if_pos h2]
    refine ⟨fun _ g => by omega, fun _ => ⟨.tok m, by simp, 5, rfl, Or.inl ⟨rfl, by omega⟩⟩⟩
  rw [if_neg h2, if_neg h3]
  match d' with
  | 0 =>
    refine ⟨fun g _ => by omega, fun _ => ⟨.tok m, by simp, 8, rfl, Or.inr ⟨rfl, by omega⟩⟩⟩
  | d' + 1 =>
    dsimp only
    obtain ⟨g1, g2⟩ := hg d' (c0 + 1) (by omega)
    refine ⟨fun a b => ?_, fun hn => ?_⟩
    · rw [g1 (by omega) (by omega), hc]
      rw [show c0 + 1 + cl = c0 + (1 + cl) by omega]
    · obtain ⟨x, hx, e, hR, he⟩ := g2 (by omega)
      exact ⟨x, hx, e, hR, by omega⟩
theorem val_lim : ∀ d, ValLim d
  | d, m, ms, c, V, A, c', h, d', c0 => by
    unfold valP at h
    by_cases h1 : begV m = false
    · rw [if_pos h1] at h; simp at h
    rw [if_neg h1] at h
    by_cases h2 : 8192 ≤ c
    · rw [if_pos h2] at h; simp at h
    rw [if_neg h2] at h
    by_cases h3 : m.k ≠ 1 ∧ m.k ≠ 3
    · rw [if_pos h3] at h
      simp only [PR.ok.injEq] at h
      obtain ⟨rfl, rfl, rfl⟩ := h
      have hcd : countV (leafV m) = 1 ∧ depthV (leafV m) = 0 := by
        have h45 := leafV_k m
        refine ⟨?_, ?_⟩
        · unfold leafV
          repeat' split
          all_goals rw [countV, countL]
        · rw [depthV_eq, if_neg (by rintro (e | e) <;> simp_all)]
      unfold valP
      rw [if_neg h1, if_pos h3]
      by_cases g : 8192 ≤ c0
      · rw [if_pos g]
        exact ⟨fun _ b => by omega, fun _ => ⟨.tok m, by simp, 5, rfl, Or.inl ⟨rfl, by omega⟩⟩⟩
      · rw [if_neg g]
        exact ⟨fun _ _ => by rw [hcd.1], fun hn => absurd ⟨by omega, by omega⟩ hn⟩
    rw [if_neg h3] at h
    revert h
    match d with
    | 0 => intro h; simp at h
    | d + 1 =>
      intro h
      dsimp only at h
      by_cases h4 : m.k = 3
      · rw [if_pos h4] at h
        unfold listP at h
        obtain ⟨m2, r2, ee, h'⟩ := nextL_ok h
        subst ee
        by_cases g : m2.k = 4
        · rw [if_pos g] at h'
          simp only [PR.ok.injEq] at h'
          obtain ⟨rfl, rfl, rfl⟩ := h'
          refine lim_go (dl := 0) (cl := 0) h1 h3 (by rw [depthV_eq]; rfl) (by rw [countV_eq]; rfl) (fun e c1 hc1 => ⟨fun _ _ => ?_, fun hn => absurd ⟨Nat.zero_le _, by omega⟩ hn⟩) d' c0
          rw [if_pos h4]
          unfold listP
          show (if m2.k = 4 then _ else _) = _
          rw [if_pos g]
          rfl
        · rw [if_neg g] at h'
          obtain ⟨its, hV, hl⟩ := items_lim (val_lim d) _ m2 r2 _ [] V A c' h'
          rw [List.nil_append] at hV
          refine lim_go (dl := depthL its) (cl := countL its) h1 h3 (by rw [hV, depthV_eq]; rfl) (by rw [hV, countV_eq]; rfl) (fun e c1 _ => ?_) d' c0
          rw [if_pos h4]
          have e1 : listP (valP e) (.tok m2 :: r2) c1 = itemsP (valP e) (r2.length + 1) m2 r2 c1 [] := by
            unfold listP
            show (if m2.k = 4 then _ else _) = _
            rw [if_neg g]
          rw [e1]
          exact (hl e c1).mono (fun x hx => by simp at hx ⊢; rcases hx with hx | hx <;> simp [hx])
      · rw [if_neg h4] at h
        unfold objP at h
        obtain ⟨m2, r2, ee, h'⟩ := nextL_ok h
        subst ee
        by_cases g : m2.k = 2
        · rw [if_pos g] at h'
          simp only [PR.ok.injEq] at h'
          obtain ⟨rfl, rfl, rfl⟩ := h'
          refine lim_go (dl := 0) (cl := 0) h1 h3 (by rw [depthV_eq]; rfl) (by rw [countV_eq]; rfl) (fun e c1 hc1 => ⟨fun _ _ => ?_, fun hn => absurd ⟨Nat.zero_le _, by omega⟩ hn⟩) d' c0
          rw [if_neg h4]
          unfold objP
          show (if m2.k = 2 then _ else _) = _
          rw [if_pos g]
          rfl
        · rw [if_neg g] at h'
          obtain ⟨its, hV, hl⟩ := members_lim (val_lim d) _ m2 r2 _ [] V A c' h'
          rw [List.nil_append] at hV
          have hp := (sortM_perm its).map Prod.snd
          refine lim_go (dl := depthL (its.map Prod.snd)) (cl := countL (its.map Prod.snd)) h1 h3 (by rw [hV, depthV_eq, ← depth_perm hp]; rfl) (by rw [hV, countV_eq, ← countL_perm hp]; rfl) (fun e c1 _ => ?_) d' c0
          rw [if_neg h4]
          have e1 : objP (valP e) (.tok m2 :: r2) c1 = membersP (valP e) (r2.length + 1) m2 r2 c1 [] := by
            unfold objP
            show (if m2.k = 2 then _ else _) = _
            rw [if_neg g]
          rw [e1]
          exact (hl e c1).mono (fun x hx => by simp at hx ⊢; rcases hx with hx | hx <;> simp [hx])
end Go.Proofs.YtfdecbfcddkoiaaGreatDoor
