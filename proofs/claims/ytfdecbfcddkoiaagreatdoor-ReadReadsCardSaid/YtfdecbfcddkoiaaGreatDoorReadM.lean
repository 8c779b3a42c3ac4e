/-
  read.values.member, over the contract of read.values.value; the names that an object has already.
  Members that have been read: a row of the call's own.
-/
import Derived.Test.YtfdecbfcddkoiaaGreatDoorReadList
import Derived.Maps.OwnOps
import Derived.Maps.Views
import Derived.StringKeys
import Derived.Test.YtfdecbfcddkoiaaGreatDoorReadP
namespace Go.Proofs.YtfdecbfcddkoiaaGreatDoor
section
open Go.RowKit Go.WideMaps Go.Maps

/-- The names that an object has already: each once. -/
def SeenAt (w : World) (b n : Nat) (acc : List Mem) : Prop := ∃ D : DataW Unit, w.ownsMap Tryz.prog 9 (plainElem Tryz.prog 3) b n D ∧ IsMap D ∧ ∀ key : List UInt8, D.atKey (.string key) (.lit (.int .i64 0)) = .lit (.int .i64 (if acc.any (fun x => x.1.data.toList == key) = true then 1 else 0))
theorem seenLaw : Keyed Tryz.prog 9 := string_keyed Tryz.underlying9
theorem SeenAt.kept {w w' : World} {b n : Nat} {acc : List Mem} {row : Option Nat} (h : SeenAt w b n acc) (hg : w.grownBy w' row) (hne : some b ≠ row) : SeenAt w' b n acc := by
  obtain ⟨D, h1, h2⟩ := h
  exact ⟨D, h1.kept hg hne, h2⟩
theorem SeenAt.lt {w : World} {b n : Nat} {acc : List Mem} (h : SeenAt w b n acc) : b < w.heap.size := by
  obtain ⟨D, h1, h2⟩ := h
  exact h1.lt
theorem SeenAt.alloc {w : World} {b n : Nat} {acc : List Mem} (h : SeenAt w b n acc) (o : Obj) : SeenAt (w.alloc o) b n acc := by
  obtain ⟨D, h1, h2⟩ := h
  exact ⟨D, h1.alloc o, h2⟩
theorem seenZero (w : World) : (zeroValue 3).run Tryz.prog w = .ok (.int .i64 0) w := by kernel_rfl
theorem SeenAt.look {w : World} {b n : Nat} {acc : List Mem} (h : SeenAt w b n acc) {s : ByteArray} (hs : s.size ≤ maxLen) : (Instr.lookup 84 (.map (some b)) (.string s) false).run Tryz.prog w = .ok (.int .i64 (if hasN acc s = true then 1 else 0)) w := by
  obtain ⟨D, h1, h2, h3⟩ := h
  obtain ⟨c, hrun, hat, -⟩ := h1.lookup_int seenLaw Tryz.underlying84 Tryz.underlying3 (seenZero w) (keyOf_string_mk Tryz.underlying9 hs)
  rw [h3] at hat
  simp only [DataW.lit.injEq, Lit.int.injEq, true_and] at hat
  rw [hrun, ← hat]
  rfl
/-- A member, plainly. -/
def memP (val : Mk → List Lx → Nat → PR JV) (m : Mk) (ms : List Lx) (c : Nat) (acc : List Mem) : PR Mem :=
  if m.k ≠ 10 then .bad m.a (wrongE m 3) else if hasN acc m.name = true then .bad m.a 7
  else match expQ 6 ms with
    | .bad p e => .bad p e
    | .fin _ r => nextL (fun m3 ms3 => match val m3 ms3 c with | .bad p e => .bad p e | .ok v ms c => .ok (m.name, v) ms c) r
    | .go _ _ => .bad 0 0
theorem membersP_step (val : Mk → List Lx → Nat → PR JV) (f : Nat) (m : Mk) (ms : List Lx) (c : Nat) (acc : List Mem) : membersP val (f + 1) m ms c acc =
    match memP val m ms c acc with
    | .bad p e => .bad p e
    | .ok x ms c => moreP 2 (fun r => .ok (objV (acc ++ [x])) r c) (fun m r => membersP val f m r c (acc ++ [x])) ms := by
  rw [membersP, memP]
  by_cases h1 : m.k ≠ 10
  · rw [if_pos h1, if_pos h1]
  rw [if_neg h1, if_neg h1]
  by_cases h2 : hasN acc m.name = true
  · rw [if_pos h2, if_pos h2]
  rw [if_neg h2, if_neg h2]
  match ms with
  | [] => rfl
  | .err p e :: tl => rfl
  | .tok m2 :: r2 =>
    simp only [nextL, expQ]
    by_cases h3 : m2.k = 6
    · rw [if_neg (by simpa using h3), if_pos h3]
      match r2 with
      | [] => rfl
      | .err p e :: tl => rfl
      | .tok m3 :: r3 =>
        simp only
        cases val m3 r3 c <;> rfl
    · rw [if_pos h3, if_neg h3]
def zeroM : Value := .agg #[.string ⟨#[]⟩, .int .u8 0, .int .i64 0, .string ⟨#[]⟩, .slice none 0 0, .slice none 0 0]
/-- A member's six cells. -/
def VC.mem (s : ByteArray) (x : VC) : Value := .agg #[.string s, .int .u8 x.k, .int .i64 x.n, .string x.t, .slice x.a x.l x.c, .slice x.b x.m x.e]
def zeroMs : Array Value := #[.string ⟨#[]⟩, .int .u8 0, .int .i64 0, .string ⟨#[]⟩, .slice none 0 0, .slice none 0 0]
/-- What reading a member leaves behind. -/
def KPost (R : PR Mem) (s : ByteArray) (r : Nat) (d : Int) (w : World) (e : Ending) (w' : World) : Prop :=
  w.grownBy w' (some r) ∧ match R with
    | .bad p er => e = .returned (.tuple #[zeroM, .int .i64 er]) ∧ StBad w' r s p ∧ er ≠ 0
    | .ok V ms c => ∃ (x : VC) (m : Mk), e = .returned (.tuple #[x.mem V.1, .int .i64 0]) ∧ NewV w.heap.size w' V.2 x.val ∧ V.1.size ≤ 4096 ∧ StAt w' r s m ms c d ∧ m.k ≠ 11
theorem mname_size {m : Mk} (h : MkB m) : m.name.size ≤ 4096 := h.2.2
theorem StAt.tname {w : World} {r : Nat} {s : ByteArray} {m : Mk} {ms : List Lx} {c d : Int} (h : StAt w r s m ms c d) : w.cell? ⟨r, 6, none⟩ = some (.string m.name) := h.1.cells.2.2.2.2.2.2.1
theorem blk6 {w : World} {b : Nat} {T : TypeId} {v0 v1 v2 v3 v4 v5 : Value} (h : BlkAt w b T #[v0, v1, v2, v3, v4, v5]) :
    w.cell? ⟨b, 0, none⟩ = some v0 ∧ w.cell? ⟨b, 1, none⟩ = some v1 ∧ w.cell? ⟨b, 2, none⟩ = some v2 ∧ w.cell? ⟨b, 3, none⟩ = some v3 ∧ w.cell? ⟨b, 4, none⟩ = some v4 ∧ w.cell? ⟨b, 5, none⟩ = some v5 ∧ ∀ i, w.frozen? ⟨b, i, none⟩ = false :=
  ⟨h.cell 0, h.cell 1, h.cell 2, h.cell 3, h.cell 4, h.cell 5, h.free⟩
theorem heap_set6 (w : World) (b k : Nat) (v0 v1 v2 v3 v4 v5 : Value) (h : k ≠ b) :
    ((((((w.setCell ⟨b, 0, none⟩ v0).setCell ⟨b, 1, none⟩ v1).setCell ⟨b, 2, none⟩ v2).setCell ⟨b, 3, none⟩ v3).setCell ⟨b, 4, none⟩ v4).setCell ⟨b, 5, none⟩ v5).heap[k]? = w.heap[k]? := by
  rw [Below.heap_setCell _ _ _ _ h, heap_set5 _ _ _ _ _ _ _ _ h]
theorem grown_set6 {w w' : World} {r b : Nat} (h : w.grownBy w' (some r)) (hb : w.heap.size ≤ b) (v0 v1 v2 v3 v4 v5 : Value) :
    w.grownBy ((((((w'.setCell ⟨b, 0, none⟩ v0).setCell ⟨b, 1, none⟩ v1).setCell ⟨b, 2, none⟩ v2).setCell ⟨b, 3, none⟩ v3).setCell ⟨b, 4, none⟩ v4).setCell ⟨b, 5, none⟩ v5) (some r) :=
  grown_set_new (grown_set5 h hb _ _ _ _ _) hb _ _
set_option maxRecDepth 100000 in
set_option maxHeartbeats 8000000 in
theorem member_any {B w : World} {r d mb n : Nat} {s : ByteArray} {m : Mk} {ms : List Lx} {c : Nat} {acc : List Mem} (hs : s.size ≤ 65536) (hV : ValC B s r d) (hB : Bas B w r) (h : StAt w r s m ms c (12 - d : Int)) (hM : SeenAt w mb n acc) (hne : mb ≠ r) (R : PR Mem) (hR : Hid (memP (valP d) m ms c acc = R)) :
    Calls Tryz.prog 42 #[.pointer (some ⟨r, 0, none⟩), .map (some mb)] w (KPost R s r (12 - d : Int) w) := by
  have hlt := h.lt
  obtain ⟨dd, hdd⟩ : ∃ dd : Int, (12 - d : Int) = dd := ⟨_, rfl⟩
  rw [hdd] at h ⊢
  have HDD := Lib.hid hdd
  have hkc := h.kcell
  have htc := h.tname
  have hr := hR.out
  unfold memP at hr
  have HS := Lib.hid h
  have HB := Lib.hid hB
  by_cases h10 : m.k ≠ 10
  · rw [if_pos h10] at hr
    have hne0 := wrongE_ne m
    generalize hv : wrongE m 3 = v at hr hne0
    have HV := Lib.hid hv
    subst hr
    have hb : (m.k != 10) = true := by rw [bne_iff_ne]; exact h10
    have HW := Lib.hid (fun (W : World) (hc : W.cell? ⟨r, 2, none⟩ = some (.int .u8 m.k)) => wrong_any hc v HV)
    clear hR hB h hM hdd hv h10
    go_enter Tryz.func42, Tryz.ntmps42
    go_wp2_with fail
    refine (HW.out _ (by rw [cell_al_lt _ _ _ _ hlt]; exact hkc)).mono ?_
    rintro e w' ⟨rfl, rfl⟩
    go_wp2_with fail
    exact bodyPost_ret (v := .tuple #[zeroM, .int .i64 v]) (by simp [results, Tryz.results42, go_sem, zeroM]) rfl ⟨grown_alloc (World.grownBy.refl _ _) _, rfl, (HS.out.keep (bel_alloc (Below.refl _ _) _)).bad, hne0⟩
  · rw [if_neg h10] at hr
    have hb : (m.k != 10) = false := by simpa using h10
    have hk11 : m.k ≠ 11 := by omega
    have hnm := mname_size h.mkb
    have hlook := (hM.alloc (.cells #[.string ⟨#[]⟩, .int .u8 0, .int .i64 0, .string ⟨#[]⟩, .slice none 0 0, .slice none 0 0] 86)).look (s := m.name) (by unfold maxLen; omega)
    have HSN := Lib.hid hnm
    by_cases hn : hasN acc m.name = true
    · rw [if_pos hn] at hr
      subst hr
      rw [if_pos hn] at hlook
      clear hR hB h hM hdd h10 hn
      go_enter Tryz.func42, Tryz.ntmps42
      go_wp2_with fail
      exact bodyPost_ret (v := .tuple #[zeroM, .int .i64 7]) (by simp [results, Tryz.results42, go_sem, zeroM]) rfl ⟨grown_alloc (World.grownBy.refl _ _) _, rfl, (HS.out.keep (bel_alloc (Below.refl _ _) _)).bad, by decide⟩
    rw [if_neg hn] at hr hlook
    have hb0 : Below w.heap.size w (w.alloc (.cells zeroMs 86)) := bel_alloc (Below.refl _ _) _
    have HRB : Hid (BlkAt (w.alloc (.cells zeroMs 86)) w.heap.size 86 zeroMs) := blkAt_new _ _ _
    have HB0 := Lib.hid hb0
    obtain ⟨RQ, hRQ⟩ : ∃ RQ, expQ 6 ms = RQ := ⟨_, rfl⟩
    rw [hRQ] at hr
    have HE := Lib.hid (expect_any hs (hB.grown (grown_of hb0 _)) (h.keep hb0) hk11 6 RQ (Lib.hid hRQ))
    have hs0 : (w.alloc (.cells zeroMs 86)).heap.size = w.heap.size + 1 := size_al _ _
    have HS0 := Lib.hid hs0
    have hgo : ∀ a b, RQ ≠ .go a b := by
      intro a b e
      rw [e] at hRQ
      match ms with
      | [] => simp [expQ] at hRQ
      | .err p e :: tl => simp [expQ] at hRQ
      | .tok m2 :: r2 =>
        simp only [expQ] at hRQ
        split at hRQ <;> simp at hRQ
    have hf6 : ∀ a b, RQ = .fin a b → a.k = 6 := by
      intro a b e
      rw [e] at hRQ
      match ms with
      | [] => simp [expQ] at hRQ
      | .err p e :: tl => simp [expQ] at hRQ
      | .tok m2 :: r2 =>
        simp only [expQ] at hRQ
        split at hRQ
        · simp only [MQ.fin.injEq] at hRQ
          rw [← hRQ.1]; assumption
        · simp at hRQ
    clear hR hB h hM hdd h10 hn hRQ hb0 hs0 hnm
    generalize hnmv : m.name = nm at *
    clear hnmv
    go_enter Tryz.func42, Tryz.ntmps42
    go_wp2_with fail
    clear hlook hkc htc
    cases RQ with
    | go a b => exact absurd rfl (hgo a b)
    | bad p er =>
      dsimp only at hr
      subst hr
      refine HE.out.mono ?_
      rintro e' w1 ⟨hg1, rfl, hbad, hne1⟩
      have heb : (er != 0) = true := by rw [bne_iff_ne]; exact hne1
      have hs1 := hg1.size
      rw [HS0.out] at hs1
      obtain ⟨z0, z1, z2, z3, z4, z5, zf⟩ := blk6 (HRB.out.grown hg1 (by intro e; cases e; omega))
      have hg' : w.grownBy w1 (some r) := (grown_of HB0.out _).trans hg1
      go_wp2_with fail
      exact bodyPost_ret (v := .tuple #[zeroM, .int .i64 er]) (by simp [results, Tryz.results42, go_sem, zeroM, z0, z1, z2, z3, z4, z5]) rfl ⟨grown_set6 hg' (Nat.le_refl _) _ _ _ _ _ _, rfl, hbad.same (heap_set6 _ _ _ _ _ _ _ _ _ (by omega)), hne1⟩
    | fin m2 r2 =>
      dsimp only at hr
      have hk2 : m2.k ≠ 11 := by rw [hf6 m2 r2 rfl]; decide
      refine HE.out.mono ?_
      rintro e' w1 ⟨hg1, rfl, hst1⟩
      have hs1 := hg1.size
      rw [HS0.out] at hs1
      have HZ1 : Hid (BlkAt w1 w.heap.size 86 zeroMs) := HRB.out.grown hg1 (by intro e; cases e; omega)
      have HG1 : Hid (w.grownBy w1 (some r)) := (grown_of HB0.out _).trans hg1
      match r2 with
      | [] => exact absurd hst1.nonil hk2
      | .err p er :: tl =>
        have hne1 := hst1.err
        have heb : (er != 0) = true := by rw [bne_iff_ne]; exact hne1
        dsimp only [nextL] at hr
        subst hr
        have HN := Lib.hid (next_err hs (HB.out.grown HG1.out) hst1 hk2 (Lib.hid rfl))
        clear hst1 hg1
        go_wp2_with fail
        refine HN.out.mono ?_
        rintro e' w2 ⟨rfl, hg2, hbad⟩
        have hs2 := hg2.size
        obtain ⟨z0, z1, z2, z3, z4, z5, zf⟩ := blk6 (HZ1.out.grown hg2 (by intro e; cases e; omega))
        have hg' : w.grownBy w2 (some r) := HG1.out.trans hg2
        go_wp2_with fail
        exact bodyPost_ret (v := .tuple #[zeroM, .int .i64 er]) (by simp [results, Tryz.results42, go_sem, zeroM, z0, z1, z2, z3, z4, z5]) rfl ⟨grown_set6 hg' (Nat.le_refl _) _ _ _ _ _ _, rfl, hbad.same (heap_set6 _ _ _ _ _ _ _ _ _ (by omega)), hne1⟩
      | .tok m3 :: r3 =>
        dsimp only [nextL] at hr
        have HN := Lib.hid (next_tok hs (HB.out.grown HG1.out) hst1 hk2 (Lib.hid rfl))
        clear hst1 hg1
        go_wp2_with fail
        refine HN.out.mono ?_
        rintro e' w2 ⟨rfl, hg2, hst2⟩
        have hs2 := hg2.size
        have HZ2 : Hid (BlkAt w2 w.heap.size 86 zeroMs) := HZ1.out.grown hg2 (by intro e; cases e; omega)
        have HG2 : Hid (w.grownBy w2 (some r)) := HG1.out.trans hg2
        obtain ⟨R1, hR1⟩ : ∃ R1, valP d m3 r3 c = R1 := ⟨_, rfl⟩
        have HC := Lib.hid (hV w2 m3 r3 c (HB.out.grown HG2.out) (by rw [HDD.out]; exact hst2))
        rw [HDD.out, hR1] at HC
        rw [hR1] at hr
        clear hst2 hg2 hR1 HZ1 HG1 HN HE
        cases R1 with
        | bad p er =>
          dsimp only at hr
          subst hr
          go_wp2_with fail
          refine HC.out.mono ?_
          rintro e' w3 ⟨hg3, rfl, hbad, hne1⟩
          have heb : (er != 0) = true := by rw [bne_iff_ne]; exact hne1
          have hs3 := hg3.size
          obtain ⟨z0, z1, z2, z3, z4, z5, zf⟩ := blk6 ((HZ2.out.grown hg3 (by intro e; cases e; omega)).alloc (.cells #[.int .u8 0, .int .i64 0, .string ⟨#[]⟩, .slice none 0 0, .slice none 0 0] 26))
          have hg' : w.grownBy w3 (some r) := HG2.out.trans hg3
          have hr3 : r < w3.heap.size := by omega
          simp only [zeroV]
          go_wp2_with fail
          exact bodyPost_ret (v := .tuple #[zeroM, .int .i64 er]) (by simp [results, Tryz.results42, go_sem, zeroM, z0, z1, z2, z3, z4, z5]) rfl ⟨grown_set6 (grown_alloc hg' _) (Nat.le_refl _) _ _ _ _ _ _, rfl, hbad.same ((heap_set6 _ _ _ _ _ _ _ _ _ (by omega)).trans ((bel_alloc (Below.refl w3.heap.size w3) _).block r hr3)), hne1⟩
        | ok V ms1 c1 =>
          dsimp only at hr
          subst hr
          go_wp2_with fail
          refine HC.out.mono ?_
          rintro e' w3 ⟨hg3, ⟨xk, xn, xt, xa, xl, xc, xb, xm, xe⟩, m1, rfl, hnew, hst3, hk3⟩
          simp only [VC.val]
          have hs3 := hg3.size
          obtain ⟨z0, z1, z2, z3, z4, z5, zf⟩ := blk6 ((HZ2.out.grown hg3 (by intro e; cases e; omega)).alloc (.cells #[.int .u8 xk, .int .i64 xn, .string xt, .slice xa xl xc, .slice xb xm xe] 26))
          have hg' : w.grownBy w3 (some r) := HG2.out.trans hg3
          have hr3 : r < w3.heap.size := by omega
          have HNew := Lib.hid hnew
          have HSt3 := Lib.hid hst3
          clear hnew hst3
          go_wp2_with fail
          exact bodyPost_ret (v := .tuple #[.agg #[.string nm, .int .u8 xk, .int .i64 xn, .string xt, .slice xa xl xc, .slice xb xm xe], .int .i64 0]) (by simp [results, Tryz.results42, go_sem, z0, z1, z2, z3, z4, z5]) rfl
            ⟨grown_set6 (grown_alloc hg' _) (Nat.le_refl _) _ _ _ _ _ _, ⟨xk, xn, xt, xa, xl, xc, xb, xm, xe⟩, m1, rfl,
              HNew.out.carry (fun k hk hP => ⟨offB_none.2 (by have := offB_none.1 hP; omega), (heap_set6 _ _ _ _ _ _ _ _ _ (by have := offB_none.1 hP; omega)).trans ((bel_alloc (Below.refl w3.heap.size w3) _).block k hk)⟩), HSN.out,
              HSt3.out.same ((heap_set6 _ _ _ _ _ _ _ _ _ (by omega)).trans ((bel_alloc (Below.refl w3.heap.size w3) _).block r hr3)), hk3⟩
end

section
open Go.RowKit Go.WideMaps Go.Maps

/-- A member that has been read: its name, its value's cells, what they read as. -/
structure XM where
  name : ByteArray
  c : VC
  V : JV
instance : Inhabited XM := ⟨⟨⟨#[]⟩, default, .mk 0 0 ⟨#[]⟩ [] []⟩⟩
def XM.cells (x : XM) : List Value := [.string x.name, .int .u8 x.c.k, .int .i64 x.c.n, .string x.c.t, .slice x.c.a x.c.l x.c.c, .slice x.c.b x.c.m x.c.e]
theorem XM.cells_len (x : XM) : x.cells.length = 6 := rfl
theorem XM.cells_one (x : XM) : ∀ v ∈ x.cells, v.oneCell' = true := by
  intro v hv
  simp only [XM.cells, List.mem_cons, List.not_mem_nil, or_false] at hv
  rcases hv with rfl | rfl | rfl | rfl | rfl | rfl <;> rfl
def XM.mem (x : XM) : Mem := (x.name, x.V)
def xmCells (xs : List XM) : List Value := xs.flatMap XM.cells
theorem xmCells_snoc (xs : List XM) (x : XM) : xmCells (xs ++ [x]) = xmCells xs ++ x.cells := by simp [xmCells]
theorem xmCells_len (xs : List XM) : (xmCells xs).length = xs.length * 6 := by
  induction xs with
  | nil => rfl
  | cons m r ih => simp only [xmCells, List.flatMap_cons, List.length_append, List.length_cons] at *; rw [ih, XM.cells_len]; omega
theorem xmCells_get : ∀ (xs : List XM) (i : Nat) (x : XM), xs[i]? = some x → ∀ j, j < 6 → (xmCells xs)[i * 6 + j]? = x.cells[j]?
  | [], i, x, h, _, _ => by simp at h
  | y :: r, 0, x, h, j, hj => by
    simp at h; subst h
    show (y.cells ++ xmCells r)[0 * 6 + j]? = _
    rw [Nat.zero_mul, Nat.zero_add, List.getElem?_append_left (by rw [XM.cells_len]; omega)]
  | y :: r, i + 1, x, h, j, hj => by
    show (y.cells ++ xmCells r)[(i + 1) * 6 + j]? = _
    rw [List.getElem?_append_right (by rw [XM.cells_len]; omega), ← xmCells_get r i x (by simpa using h) j hj, XM.cells_len]
    congr 1
    omega
/-- A row of members of the call's own. -/
def MemsOwn (w : World) (B : Nat) (v : Value) (xs : List XM) : Prop := w.ownsRow B 86 6 v xs.length (xmCells xs) ∧ ∀ x ∈ xs, ValAt (hidden (offB B v.ownBlock) w) x.V x.c.val
theorem MemsOwn.nil (w : World) (B : Nat) : MemsOwn w B (.slice none 0 0) [] := ⟨World.ownsRow_nil _ _ _ _, by simp⟩
theorem MemsOwn.kept {w w' : World} {B r : Nat} {v : Value} {xs : List XM} (h : MemsOwn w B v xs) (hr : r < B) (hg : w.grownBy w' (some r)) : MemsOwn w' B v xs := by
  refine ⟨?_, fun x hx => (h.2 x hx).carry fun k hk hP => ⟨hP, hg.block k hk (fun e => ?_)⟩⟩
  · cases hv : v.ownBlock with
    | none => exact h.1.kept hg (Or.inl hv)
    | some g =>
      refine h.1.kept hg (Or.inr ?_)
      rw [hv]
      intro e
      have := (World.ownsRow.lt h.1 g hv).1
      cases e
      omega
  · have := (offB_no.1 hP).1
    cases e
    omega
theorem MemsOwn.set {w : World} {B b : Nat} {v : Value} {xs : List XM} (h : MemsOwn w B v xs) (hb : b < B) (i : Nat) (u : Value) : MemsOwn (w.setCell ⟨b, i, none⟩ u) B v xs :=
  h.kept hb (grown_set (World.grownBy.refl _ _) _ _)
theorem MemsOwn.snoc {wr w1 w5 : World} {B : Nat} {vI v' : Value} {xs : List XM} {nm : ByteArray} {x : VC} {V : JV} (h : MemsOwn wr B vI xs) (hx : NewV wr.heap.size w1 V x.val) (hB : B ≤ wr.heap.size) (hsz : wr.heap.size ≤ w1.heap.size)
    (hv : v'.ownBlock = vI.ownBlock ∨ ∃ g, v'.ownBlock = some g ∧ w1.heap.size ≤ g) (hown : w5.ownsRow B 86 6 v' (xs.length + 1) (xmCells xs ++ XM.cells ⟨nm, x, V⟩))
    (hk : ∀ k, k < w1.heap.size → B ≤ k → vI.ownBlock ≠ some k → w5.heap[k]? = w1.heap[k]?) (hk0 : ∀ k, k < wr.heap.size → B ≤ k → w1.heap[k]? = wr.heap[k]?) : MemsOwn w5 B v' (xs ++ [⟨nm, x, V⟩]) := by
  have hne : ∀ k, k < w1.heap.size → vI.ownBlock ≠ some k → v'.ownBlock ≠ some k := fun k hk1 hk2 => by
    rcases hv with e | ⟨g, e, hg⟩
    · rw [e]; exact hk2
    · rw [e]; intro e2; cases e2; omega
  refine ⟨by rw [List.length_append, xmCells_snoc]; exact hown, fun y hy => ?_⟩
  rw [List.mem_append] at hy
  rcases hy with hy | hy
  · refine (h.2 y hy).carry fun k hk1 hk2 => ?_
    obtain ⟨a, b⟩ := offB_no.1 hk2
    exact ⟨offB_no.2 ⟨a, hne k (by omega) b⟩, (hk k (by omega) a b).trans (hk0 k hk1 a)⟩
  · simp only [List.mem_singleton] at hy
    subst hy
    refine ValAt.carry hx fun k hk1 hk2 => ?_
    have a := offB_none.1 hk2
    have b : vI.ownBlock ≠ some k := fun e => by
      have := (World.ownsRow.lt h.1 k e).2
      omega
    exact ⟨offB_no.2 ⟨by omega, hne k hk1 b⟩, hk k hk1 (by omega) b⟩
theorem infoMem : (Tryz.prog.info? 86).map (fun i => (i.zero, i.size, i.bytes)) = some (some zeroM, 6, 96) := by kernel_rfl
theorem isKey_string (l : List UInt8) : WideAt.IsKeyLit (.string l) := by
  first | trivial | exact ⟨_, rfl⟩ | (simp [WideAt.IsKeyLit]) | (unfold WideAt.IsKeyLit; rfl)
/-- A name more. -/
theorem seen_put {w' : World} {b n : Nat} {acc : List Mem} {D : DataW Unit} {nm : ByteArray} {V : JV} (hm : IsMap D) (hat : ∀ key : List UInt8, D.atKey (.string key) (.lit (.int .i64 0)) = .lit (.int .i64 (if acc.any (fun x => x.1.data.toList == key) = true then 1 else 0)))
    (h : w'.ownsMap Tryz.prog 9 (plainElem Tryz.prog 3) b n (D.put (.string nm.data.toList) (.lit (.int .i64 1)))) : SeenAt w' b n (acc ++ [(nm, V)]) := by
  refine ⟨_, h, hm.put _ _, fun key => ?_⟩
  by_cases e : nm.data.toList = key
  · subst e
    rw [atKey_put_same hm (isKey_string _)]
    simp
  · rw [atKey_put_other (fun h => e (by cases h; rfl)), hat]
    have : (nm.data.toList == key) = false := beq_eq_false_iff_ne.2 e
    rw [List.any_append, List.any_cons, List.any_nil, this, Bool.or_false, Bool.or_false]
theorem seen_nil {w : World} : SeenAt (w.alloc (.map #[] 0)) w.heap.size 0 [] := ⟨_, World.ownsMap_made _ _ _ _, isMap_empty, fun _key => rfl⟩
theorem memP_ok {val : Mk → List Lx → Nat → PR JV} {m : Mk} {ms : List Lx} {c : Nat} {acc : List Mem} {x : Mem} {ms' : List Lx} {c' : Nat} (h : memP val m ms c acc = .ok x ms' c') : hasN acc x.1 = false ∧ ∃ m3 r3, val m3 r3 c = .ok x.2 ms' c' ∧ r3.length + 2 = ms.length := by
  unfold memP at h
  by_cases h1 : m.k ≠ 10
  · rw [if_pos h1] at h; simp at h
  rw [if_neg h1] at h
  by_cases h2 : hasN acc m.name = true
  · rw [if_pos h2] at h; simp at h
  rw [if_neg h2] at h
  match ms with
  | [] => simp [expQ] at h
  | .err p e :: tl => simp [expQ] at h
  | .tok m2 :: r2 =>
    simp only [expQ] at h
    by_cases h6 : m2.k = 6
    · rw [if_pos h6] at h
      match r2 with
      | [] => simp [nextL] at h
      | .err p e :: tl => simp [nextL] at h
      | .tok m3 :: r3 =>
        simp only [nextL] at h
        cases hv : val m3 r3 c with
        | bad p e => rw [hv] at h; simp at h
        | ok v ms1 c1 =>
          rw [hv] at h
          simp only [PR.ok.injEq] at h
          obtain ⟨rfl, rfl, rfl⟩ := h
          exact ⟨by simpa using h2, m3, r3, hv, by simp⟩
    · rw [if_neg h6] at h
      simp at h
end
end Go.Proofs.YtfdecbfcddkoiaaGreatDoor
