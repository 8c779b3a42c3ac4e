/-
  The state of the reading: where it stands; the next mark; the error of a mark; what is expected; a comma or the end.
-/
import Derived.Test.YtfdecbfcddkoiaaGreatDoorReadNextW
import Derived.Test.YtfdecbfcddkoiaaGreatDoorReadVal
namespace Go.Proofs.YtfdecbfcddkoiaaGreatDoor
open Go.RowKit

/-- The bounds of a mark's number and text. -/
def MkB (m : Mk) : Prop := -9223372036854775808 ≤ m.n ∧ m.n ≤ 9223372036854775807 ∧ m.t.length ≤ 4096
theorem strGo_len : ∀ (f : Nat) (l out : List UInt8), out.length ≤ 4096 → (strGo f l out).1.length ≤ 4096
  | 0, _, _, _ => by simp [strGo]
  | _ + 1, [], _, _ => by simp [strGo]
  | f + 1, c :: r, out, h => by
    rw [strGo]
    by_cases h1 : c.toNat = 34
    · rw [if_pos h1]; exact h
    rw [if_neg h1]
    by_cases h2 : (itemP (c :: r)).2.2 ≠ 0
    · rw [if_pos h2]; simp
    rw [if_neg h2]
    by_cases h3 : 4096 < out.length + (encP (itemP (c :: r)).1).length
    · rw [if_pos h3]; simp
    rw [if_neg h3]
    by_cases h4 : (strGo f ((c :: r).drop (itemP (c :: r)).2.1) (out ++ encP (itemP (c :: r)).1)).2.2 ≠ 0
    · rw [if_pos h4]; simp
    rw [if_neg h4]
    exact strGo_len f _ _ (by rw [List.length_append]; omega)
theorem tokP_b (l : List UInt8) : -9223372036854775808 ≤ (tokP l).n ∧ (tokP l).n ≤ 9223372036854775807 ∧ (tokP l).t.length ≤ 4096 := by
  match l with
  | [] => simp [tokP]
  | c :: r =>
    rw [tokP]
    by_cases h1 : signOf c ≠ 0
    · rw [if_pos h1]; simp
    rw [if_neg h1]
    by_cases h2 : c.toNat = 34
    · rw [if_pos h2]
      unfold textP
      by_cases h3 : (strP r).2.2 ≠ 0
      · rw [if_pos h3]; simp [Tok.bad]
      · rw [if_neg h3]
        exact ⟨by simp, by simp, strGo_len _ _ _ (by simp)⟩
    rw [if_neg h2]
    by_cases h3 : numFirst c = true
    · rw [if_pos h3]
      unfold numP
      by_cases h4 : Nm.form ((c :: r).takeWhile Nm.isN) = false
      · rw [if_pos h4]; simp [Tok.bad]
      rw [if_neg h4]
      by_cases h5 : -9223372036854775808 ≤ Nm.val ((c :: r).takeWhile Nm.isN) ∧ Nm.val ((c :: r).takeWhile Nm.isN) ≤ 9223372036854775807
      · rw [if_pos h5]; exact ⟨h5.1, h5.2, by simp⟩
      · rw [if_neg h5]; simp [Tok.bad]
    · rw [if_neg h3]
      unfold wordP
      split
      · simp
      · split <;> simp [Tok.bad]
theorem nextM_b {s : List UInt8} {z : Nat} {m : Mk} {e : Int} (h : nextM s z = (m, e)) : MkB m := by
  unfold nextM at h
  by_cases h1 : (tokB (s.drop z)).e ≠ 0
  · rw [if_pos h1] at h
    simp only [Prod.mk.injEq] at h
    obtain ⟨rfl, -⟩ := h
    exact ⟨by decide, by decide, by decide⟩
  · rw [if_neg h1] at h
    simp only [Prod.mk.injEq] at h
    obtain ⟨rfl, -⟩ := h
    exact tokP_b _
/-- The reading stands at a mark; behind it stand these. -/
def StAt (w : World) (r : Nat) (s : ByteArray) (m : Mk) (ms : List Lx) (c d : Int) : Prop :=
  RdAt w r s m.a m.k m.a m.z m.n ⟨m.t.toArray⟩ m.z c d ∧ m.z ≤ s.size ∧ (ms = if m.k = 11 then [] else lexes (s.data.toList.drop m.z) m.z) ∧ MkB m
/-- The reading has stopped at a place. -/
def StBad (w : World) (r : Nat) (s : ByteArray) (p : Nat) : Prop := ∃ (k x z n : Int) (t : ByteArray) (af c d : Int), RdAt w r s p k x z n t af c d
/-- The tables of the library lie below the call's own memory. -/
structure Bas (B w : World) (r : Nat) : Prop where
  env : NumEnv B
  below : Below B.heap.size B w
  ge : B.heap.size ≤ r
theorem Bas.grown {B w w' : World} {r : Nat} (h : Bas B w r) (hg : w.grownBy w' (some r)) : Bas B w' r := ⟨h.env, grown_Below h.below h.ge hg, h.ge⟩
theorem StAt.bad {w : World} {r : Nat} {s : ByteArray} {m : Mk} {ms : List Lx} {c d : Int} (h : StAt w r s m ms c d) : StBad w r s m.a := ⟨_, _, _, _, _, _, _, _, h.1⟩
theorem StAt.lt {w : World} {r : Nat} {s : ByteArray} {m : Mk} {ms : List Lx} {c d : Int} (h : StAt w r s m ms c d) : r < w.heap.size := BlkAt.lt h.1
theorem StAt.keep {w w' : World} {r : Nat} {s : ByteArray} {m : Mk} {ms : List Lx} {c d : Int} (h : StAt w r s m ms c d) (hb : Below w.heap.size w w') : StAt w' r s m ms c d := ⟨BlkAt.keep h.1 hb, h.2⟩
theorem StAt.same {w w' : World} {r : Nat} {s : ByteArray} {m : Mk} {ms : List Lx} {c d : Int} (h : StAt w r s m ms c d) (hb : w'.heap[r]? = w.heap[r]?) : StAt w' r s m ms c d := ⟨by unfold RdAt BlkAt; rw [hb]; exact h.1, h.2⟩
theorem StBad.same {w w' : World} {r : Nat} {s : ByteArray} {p : Nat} (h : StBad w r s p) (hb : w'.heap[r]? = w.heap[r]?) : StBad w' r s p := by
  obtain ⟨k, x, z, n, t, af, c, d, h⟩ := h
  exact ⟨k, x, z, n, t, af, c, d, by unfold RdAt BlkAt; rw [hb]; exact h⟩
theorem lexes_ne (l : List UInt8) (p : Nat) : lexes l p ≠ [] := by
  rw [lexes_step]
  by_cases h1 : (tokB l).e ≠ 0
  · rw [if_pos h1]; simp
  · rw [if_neg h1]; simp
theorem lexes_err {l : List UInt8} {p q : Nat} {e : Int} {r : List Lx} (h : lexes l p = .err q e :: r) : e ≠ 0 := by
  rw [lexes_step] at h
  by_cases h1 : (tokB l).e ≠ 0
  · rw [if_pos h1] at h
    simp only [List.cons.injEq, Lx.err.injEq] at h
    rw [← h.1.2]; exact h1
  · rw [if_neg h1] at h; simp at h
theorem StAt.err {w : World} {r : Nat} {s : ByteArray} {m : Mk} {c d : Int} {q : Nat} {e : Int} {tl : List Lx} (h : StAt w r s m (.err q e :: tl) c d) : e ≠ 0 := by
  have h3 := h.2.2.1
  by_cases hk : m.k = 11
  · rw [if_pos hk] at h3; cases h3
  · rw [if_neg hk] at h3; exact lexes_err h3.symm
theorem StAt.nonil {w : World} {r : Nat} {s : ByteArray} {m : Mk} {c d : Int} (h : StAt w r s m [] c d) : m.k = 11 := by
  apply Classical.byContradiction
  intro hk
  have h3 := h.2.2.1
  rw [if_neg hk] at h3
  exact lexes_ne _ _ h3.symm
theorem nextM_zero {s : List UInt8} {z : Nat} {m : Mk} {e : Int} (h : nextM s z = (m, e)) (he : e ≠ 0) : m = ⟨0, 0, 0, 0, []⟩ := by
  unfold nextM at h
  by_cases h1 : (tokB (s.drop z)).e ≠ 0
  · rw [if_pos h1] at h
    simp only [Prod.mk.injEq] at h
    exact h.1.symm
  · rw [if_neg h1] at h
    simp only [Prod.mk.injEq] at h
    exact absurd h.2.symm he
/-- The next mark is none. -/
theorem next_err {B w : World} {r : Nat} {s : ByteArray} {m : Mk} {ms : List Lx} {c d : Int} (hs : s.size ≤ 65536) (hB : Bas B w r) (h : StAt w r s m ms c d) (hk : m.k ≠ 11) {p : Nat} {e : Int} {tl : List Lx} (hms : Hid (ms = .err p e :: tl)) :
    Calls Tryz.prog 12 #[.pointer (some ⟨r, 0, none⟩)] w fun e' w' => e' = .returned (.int .i64 e) ∧ w.grownBy w' (some r) ∧ StBad w' r s p := by
  obtain ⟨hR, hz, h3, -⟩ := h
  rw [if_neg hk, hms.out] at h3
  obtain ⟨m', er, hn⟩ : ∃ m' er, nextM s.data.toList m.z = (m', er) := ⟨_, _, rfl⟩
  by_cases he : er = 0
  · subst he
    rw [lexes_tok _ _ _ hn] at h3
    simp at h3
  · rw [lexes_bad _ _ _ _ hn he] at h3
    simp only [List.cons.injEq, Lx.err.injEq] at h3
    obtain ⟨⟨rfl, rfl⟩, -⟩ := h3
    have hm' := nextM_zero hn he
    subst hm'
    refine (rdNext_any s r m.z w B hs hz hB.env hB.below hB.ge _ _ _ _ _ _ c d hR 0 0 0 0 ⟨#[]⟩ e (show resV _ = _ by rw [hn]; rfl) _ (Lib.hid rfl)).mono ?_
    rintro e' w' ⟨rfl, hg, hbad, -⟩
    exact ⟨rfl, hg, _, _, _, _, _, _, _, _, hbad he⟩
/-- The next mark. -/
theorem next_tok {B w : World} {r : Nat} {s : ByteArray} {m : Mk} {ms : List Lx} {c d : Int} (hs : s.size ≤ 65536) (hB : Bas B w r) (h : StAt w r s m ms c d) (hk : m.k ≠ 11) {m' : Mk} {ms' : List Lx} (hms : Hid (ms = .tok m' :: ms')) :
    Calls Tryz.prog 12 #[.pointer (some ⟨r, 0, none⟩)] w fun e' w' => e' = .returned (.int .i64 0) ∧ w.grownBy w' (some r) ∧ StAt w' r s m' ms' c d := by
  obtain ⟨hR, hz, h3, -⟩ := h
  rw [if_neg hk, hms.out] at h3
  obtain ⟨m2, er, hn⟩ : ∃ m2 er, nextM s.data.toList m.z = (m2, er) := ⟨_, _, rfl⟩
  by_cases he : er = 0
  · subst he
    rw [lexes_tok _ _ _ hn] at h3
    simp only [List.cons.injEq, Lx.tok.injEq] at h3
    obtain ⟨rfl, rfl⟩ := h3
    obtain ⟨k1, k2, k3, k4, -⟩ := nextM_ok (by rw [size_len]; exact hz) hn
    rw [size_len] at k4
    refine (rdNext_any s r m.z w B hs hz hB.env hB.below hB.ge _ _ _ _ _ _ c d hR m'.k m'.a m'.z m'.n ⟨m'.t.toArray⟩ 0 (show resV _ = _ by rw [hn]; rfl) m'.a (Lib.hid k2.symm)).mono ?_
    rintro e' w' ⟨rfl, hg, -, hok⟩
    exact ⟨rfl, hg, hok rfl, k4, rfl, nextM_b hn⟩
  · rw [lexes_bad _ _ _ _ hn he] at h3
    simp at h3
theorem StAt.kcell {w : World} {r : Nat} {s : ByteArray} {m : Mk} {ms : List Lx} {c d : Int} (h : StAt w r s m ms c d) : w.cell? ⟨r, 2, none⟩ = some (.int .u8 m.k) := h.1.cells.2.2.1
/-! wrong -/
set_option maxRecDepth 100000 in
theorem wrong_any {w : World} {r : Nat} {k : Int} (hc : w.cell? ⟨r, 2, none⟩ = some (.int .u8 k)) (v : Int) (hv : Hid ((if k = 11 then (4 : Int) else 3) = v)) :
    Calls Tryz.prog 26 #[.pointer (some ⟨r, 0, none⟩)] w fun e w' => e = .returned (.int .i64 v) ∧ w = w' := by
  by_cases hk : k = 11
  · have h := hv.out
    rw [if_pos hk] at h
    subst h
    have hb : (k == 11) = true := by rw [hk]; rfl
    clear hv hk
    go_enter Tryz.func26, Tryz.ntmps26
    go_wp2_with fail
    go_ret
    exact ⟨rfl, rfl⟩
  · have h := hv.out
    rw [if_neg hk] at h
    subst h
    have hb : (k == 11) = false := beq_eq_false_iff_ne.2 hk
    clear hv hk
    go_enter Tryz.func26, Tryz.ntmps26
    go_wp2_with fail
    go_ret
    exact ⟨rfl, rfl⟩
/-! expect -/
inductive MQ where
  | bad (p : Nat) (e : Int)
  | fin (m : Mk) (r : List Lx)
  | go (m : Mk) (r : List Lx)
def expQ (k : Int) : List Lx → MQ
  | [] => .bad 0 0
  | .err p e :: _ => .bad p e
  | .tok m :: r => if m.k = k then .fin m r else .bad m.a (wrongE m 3)
def MPost (R : MQ) (s : ByteArray) (r : Nat) (c d : Int) (w : World) (e : Ending) (w' : World) : Prop :=
  w.grownBy w' (some r) ∧ match R with
    | .bad p er => e = .returned (.int .i64 er) ∧ StBad w' r s p ∧ er ≠ 0
    | .fin m ms => e = .returned (.int .i64 0) ∧ StAt w' r s m ms c d
    | .go _ _ => False
theorem wrongE_ne (m : Mk) : wrongE m 3 ≠ 0 := by unfold wrongE; split <;> decide
set_option maxRecDepth 100000 in
set_option maxHeartbeats 2000000 in
theorem expect_any {B w : World} {r : Nat} {s : ByteArray} {m : Mk} {ms : List Lx} {c d : Int} (hs : s.size ≤ 65536) (hB : Bas B w r) (h : StAt w r s m ms c d) (hk : m.k ≠ 11) (k : Int) (R : MQ) (hR : Hid (expQ k ms = R)) :
    Calls Tryz.prog 58 #[.pointer (some ⟨r, 0, none⟩), .int .u8 k] w (MPost R s r c d w) := by
  match ms with
  | [] => exact absurd h.nonil hk
  | .err p e :: tl =>
    have hne := h.err
    have heb : (e != 0) = true := by rw [bne_iff_ne]; exact hne
    have hr := hR.out
    subst hr
    have HN := Lib.hid (next_err hs hB h hk (Lib.hid rfl))
    clear hR hB h
    go_enter Tryz.func58, Tryz.ntmps58
    go_wp2_with fail
    refine HN.out.mono ?_
    rintro e' w' ⟨rfl, hg, hb⟩
    go_wp2_with fail
    go_ret
    exact ⟨hg, rfl, hb, hne⟩
  | .tok m2 :: r2 =>
    have HN := Lib.hid (next_tok hs hB h hk (Lib.hid rfl))
    have hr := hR.out
    rw [expQ] at hr
    by_cases hkk : m2.k = k
    · rw [if_pos hkk] at hr
      subst hr
      have hb : (m2.k != k) = false := by rw [hkk]; simp
      clear hR hB h
      try clear hv
      go_enter Tryz.func58, Tryz.ntmps58
      go_wp2_with fail
      refine HN.out.mono ?_
      rintro e' w' ⟨rfl, hg, hst⟩
      have hc := hst.kcell
      have HST := Lib.hid hst
      clear hst hkk
      go_wp2_with fail
      go_ret
      exact ⟨hg, rfl, HST.out⟩
    · rw [if_neg hkk] at hr
      have hne := wrongE_ne m2
      generalize hv : wrongE m2 3 = v at hr hne
      have HV := Lib.hid hv
      subst hr
      have hb : (m2.k != k) = true := by rw [bne_iff_ne]; exact hkk
      clear hR hB h
      try clear hv
      go_enter Tryz.func58, Tryz.ntmps58
      go_wp2_with fail
      refine HN.out.mono ?_
      rintro e' w' ⟨rfl, hg, hst⟩
      have hc := hst.kcell
      have HST := Lib.hid hst
      have HW := Lib.hid (wrong_any hc v HV)
      clear hst hkk
      go_wp2_with fail
      refine HW.out.mono ?_
      rintro e' w'' ⟨rfl, rfl⟩
      go_wp2_with fail
      go_ret
      exact ⟨hg, rfl, HST.out.bad, hne⟩
/-! more -/
def moreQ (last : Int) : List Lx → MQ
  | [] => .bad 0 0
  | .err p e :: _ => .bad p e
  | .tok m :: r => if m.k = last then .fin m r else if m.k = 5 then (match r with | [] => .bad 0 0 | .err p e :: _ => .bad p e | .tok m3 :: r3 => .go m3 r3) else .bad m.a (wrongE m 3)
theorem moreP_Q {α : Type} (last : Int) (fin : List Lx → PR α) (go : Mk → List Lx → PR α) (ms : List Lx) : moreP last fin go ms = match moreQ last ms with | .bad p e => .bad p e | .fin _ r => fin r | .go m r => go m r := by
  match ms with
  | [] => rfl
  | .err p e :: tl => rfl
  | .tok m :: r =>
    unfold moreP moreQ
    show (if m.k = last then _ else if m.k = 5 then _ else _) = _
    by_cases h1 : m.k = last
    · rw [if_pos h1]
      simp only [if_pos h1]
    · rw [if_neg h1]
      simp only [if_neg h1]
      by_cases h2 : m.k = 5
      · rw [if_pos h2]
        simp only [if_pos h2]
        match r with
        | [] => rfl
        | .err p e :: tl => rfl
        | .tok m3 :: r3 => rfl
      · rw [if_neg h2]
        simp only [if_neg h2]
def M2Post (R : MQ) (s : ByteArray) (r : Nat) (c d : Int) (w : World) (e : Ending) (w' : World) : Prop :=
  w.grownBy w' (some r) ∧ match R with
    | .bad p er => e = .returned (.tuple #[.bool false, .int .i64 er]) ∧ StBad w' r s p ∧ er ≠ 0
    | .fin m ms => e = .returned (.tuple #[.bool false, .int .i64 0]) ∧ StAt w' r s m ms c d
    | .go m ms => e = .returned (.tuple #[.bool true, .int .i64 0]) ∧ StAt w' r s m ms c d
set_option maxRecDepth 100000 in
set_option maxHeartbeats 2000000 in
theorem more_any {B w : World} {r : Nat} {s : ByteArray} {m : Mk} {ms : List Lx} {c d : Int} (hs : s.size ≤ 65536) (hB : Bas B w r) (h : StAt w r s m ms c d) (hk : m.k ≠ 11) (last : Int) (R : MQ) (hR : Hid (moreQ last ms = R)) :
    Calls Tryz.prog 41 #[.pointer (some ⟨r, 0, none⟩), .int .u8 last] w (M2Post R s r c d w) := by
  match ms with
  | [] => exact absurd h.nonil hk
  | .err p e :: tl =>
    have hne := h.err
    have heb : (e != 0) = true := by rw [bne_iff_ne]; exact hne
    have hr := hR.out
    subst hr
    have HN := Lib.hid (next_err hs hB h hk (Lib.hid rfl))
    clear hR hB h
    go_enter Tryz.func41, Tryz.ntmps41
    go_wp2_with fail
    refine HN.out.mono ?_
    rintro e' w' ⟨rfl, hg, hb⟩
    go_wp2_with fail
    go_ret2
    exact ⟨hg, rfl, hb, hne⟩
  | .tok m2 :: r2 =>
    have HN := Lib.hid (next_tok hs hB h hk (Lib.hid rfl))
    have HB := Lib.hid hB
    have hr := hR.out
    unfold moreQ at hr
    dsimp only at hr
    by_cases hkk : m2.k = last
    · rw [if_pos hkk] at hr
      subst hr
      have hb : (m2.k == last) = true := by rw [hkk]; simp
      clear hR hB h
      go_enter Tryz.func41, Tryz.ntmps41
      go_wp2_with fail
      refine HN.out.mono ?_
      rintro e' w' ⟨rfl, hg, hst⟩
      have hc := hst.kcell
      have HST := Lib.hid hst
      clear hst hkk
      go_wp2_with fail
      go_ret2
      exact ⟨hg, rfl, HST.out⟩
    · rw [if_neg hkk] at hr
      have hb : (m2.k == last) = false := beq_eq_false_iff_ne.2 hkk
      by_cases h5 : m2.k = 5
      · have hb5 : (m2.k == 5) = true := by rw [h5]; rfl
        have hk2 : m2.k ≠ 11 := by omega
        rw [if_pos h5] at hr
        match r2 with
        | [] =>
          exfalso
          have h3 := h.2.2.1
          rw [if_neg hk] at h3
          obtain ⟨m', er, hn⟩ : ∃ m' er, nextM s.data.toList m.z = (m', er) := ⟨_, _, rfl⟩
          by_cases he : er = 0
          · subst he
            rw [lexes_tok _ _ _ hn] at h3
            simp only [List.cons.injEq, Lx.tok.injEq] at h3
            obtain ⟨rfl, h3⟩ := h3
            rw [if_neg hk2] at h3
            exact lexes_ne _ _ h3.symm
          · rw [lexes_bad _ _ _ _ hn he] at h3
            simp at h3
        | .err p e :: tl =>
          subst hr
          clear hR hB h
          go_enter Tryz.func41, Tryz.ntmps41
          go_wp2_with fail
          refine HN.out.mono ?_
          rintro e' w' ⟨rfl, hg, hst⟩
          have hc := hst.kcell
          have hne := hst.err
          have heb : (e != 0) = true := by rw [bne_iff_ne]; exact hne
          have HN2 := Lib.hid (next_err hs (HB.out.grown hg) hst hk2 (Lib.hid rfl))
          clear hst hkk h5
          go_wp2_with fail
          refine HN2.out.mono ?_
          rintro e' w'' ⟨rfl, hg2, hb2⟩
          go_wp2_with fail
          go_ret2
          exact ⟨hg.trans hg2, rfl, hb2, hne⟩
        | .tok m3 :: r3 =>
          subst hr
          clear hR hB h
          go_enter Tryz.func41, Tryz.ntmps41
          go_wp2_with fail
          refine HN.out.mono ?_
          rintro e' w' ⟨rfl, hg, hst⟩
          have hc := hst.kcell
          have HN2 := Lib.hid (next_tok hs (HB.out.grown hg) hst hk2 (Lib.hid rfl))
          clear hst hkk h5
          go_wp2_with fail
          refine HN2.out.mono ?_
          rintro e' w'' ⟨rfl, hg2, hst2⟩
          have HST := Lib.hid hst2
          clear hst2
          go_wp2_with fail
          go_ret2
          exact ⟨hg.trans hg2, rfl, HST.out⟩
      · rw [if_neg h5] at hr
        have hne := wrongE_ne m2
        generalize hv : wrongE m2 3 = v at hr hne
        have HV := Lib.hid hv
        subst hr
        have hb5 : (m2.k == 5) = false := beq_eq_false_iff_ne.2 h5
        clear hR hB h
        try clear hv
        go_enter Tryz.func41, Tryz.ntmps41
        go_wp2_with fail
        refine HN.out.mono ?_
        rintro e' w' ⟨rfl, hg, hst⟩
        have hc := hst.kcell
        have HST := Lib.hid hst
        have HW := Lib.hid (wrong_any hc v HV)
        clear hst hkk h5
        go_wp2_with fail
        refine HW.out.mono ?_
        rintro e' w'' ⟨rfl, rfl⟩
        go_wp2_with fail
        go_ret2
        exact ⟨hg, rfl, HST.out.bad, hne⟩
end Go.Proofs.YtfdecbfcddkoiaaGreatDoor
