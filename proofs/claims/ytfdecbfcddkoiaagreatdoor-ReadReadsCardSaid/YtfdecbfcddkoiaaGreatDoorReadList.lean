/-
  read.values.list, over the contract of read.values.value.
-/
import Derived.Test.YtfdecbfcddkoiaaGreatDoorReadVal1
import Derived.Test.YtfdecbfcddkoiaaGreatDoorReadP
namespace Go.Proofs.YtfdecbfcddkoiaaGreatDoor
open Go.RowKit

theorem infoVal : (Tryz.prog.info? 26).map (fun i => (i.zero, i.size, i.bytes)) = some (some zeroV, 5, 80) := by kernel_rfl
theorem ItemsOwn.snoc {wr w1 w5 : World} {B : Nat} {vI v' : Value} {xs : List XI} {x : VC} {V : JV} (h : ItemsOwn wr B vI xs) (hx : NewV wr.heap.size w1 V x.val) (hB : B ≤ wr.heap.size) (hsz : wr.heap.size ≤ w1.heap.size)
    (hv : v'.ownBlock = vI.ownBlock ∨ ∃ g, v'.ownBlock = some g ∧ w1.heap.size ≤ g) (hown : w5.ownsRow B 26 5 v' (xs.length + 1) (xiCells xs ++ x.cells))
    (hk : ∀ k, k < w1.heap.size → B ≤ k → vI.ownBlock ≠ some k → w5.heap[k]? = w1.heap[k]?) (hk0 : ∀ k, k < wr.heap.size → B ≤ k → w1.heap[k]? = wr.heap[k]?) : ItemsOwn w5 B v' (xs ++ [(x, V)]) := by
  have hne : ∀ k, k < w1.heap.size → vI.ownBlock ≠ some k → v'.ownBlock ≠ some k := fun k hk1 hk2 => by
    rcases hv with e | ⟨g, e, hg⟩
    · rw [e]; exact hk2
    · rw [e]; intro e2; cases e2; omega
  refine ⟨by rw [List.length_append, xiCells_snoc]; exact hown, fun y hy => ?_⟩
  rw [List.mem_append] at hy
  rcases hy with hy | hy
  · refine (h.2 y hy).carry fun k hk1 hk2 => ?_
    obtain ⟨a, b⟩ := offB_no.1 hk2
    exact ⟨offB_no.2 ⟨a, hne k (by omega) b⟩, (hk k (by omega) a b).trans (hk0 k hk1 a)⟩
  · simp only [List.mem_singleton] at hy
    subst hy
    refine ValAt.carry hx fun k hk1 hk2 => ?_
    have a := offB_none.1 hk2
    have b : vI.ownBlock ≠ some k := fun e => by
      have := (World.ownsRow.lt h.1 k e).2
      omega
    exact ⟨offB_no.2 ⟨by omega, hne k hk1 b⟩, hk k hk1 (by omega) b⟩
theorem ItemsOwn.set {w : World} {B b : Nat} {v : Value} {xs : List XI} (h : ItemsOwn w B v xs) (hb : b < B) (i : Nat) (u : Value) : ItemsOwn (w.setCell ⟨b, i, none⟩ u) B v xs :=
  h.kept hb (grown_set (World.grownBy.refl _ _) _ _)
/-- The contract of value, with so many lists and objects left. -/
def ValC (B : World) (s : ByteArray) (r d : Nat) : Prop := ∀ (w : World) (m : Mk) (ms : List Lx) (c : Nat), Bas B w r → StAt w r s m ms c (12 - d : Int) → Calls Tryz.prog 13 #[.pointer (some ⟨r, 0, none⟩)] w (VPost (valP d m ms c) s r (12 - d : Int) w)
theorem blk5 {w : World} {b : Nat} {T : TypeId} {v0 v1 v2 v3 v4 : Value} (h : BlkAt w b T #[v0, v1, v2, v3, v4]) :
    w.cell? ⟨b, 0, none⟩ = some v0 ∧ w.cell? ⟨b, 1, none⟩ = some v1 ∧ w.cell? ⟨b, 2, none⟩ = some v2 ∧ w.cell? ⟨b, 3, none⟩ = some v3 ∧ w.cell? ⟨b, 4, none⟩ = some v4 ∧ ∀ i, w.frozen? ⟨b, i, none⟩ = false :=
  ⟨h.cell 0, h.cell 1, h.cell 2, h.cell 3, h.cell 4, h.free⟩
theorem heap_set5 (w : World) (b k : Nat) (v0 v1 v2 v3 v4 : Value) (h : k ≠ b) :
    (((((w.setCell ⟨b, 0, none⟩ v0).setCell ⟨b, 1, none⟩ v1).setCell ⟨b, 2, none⟩ v2).setCell ⟨b, 3, none⟩ v3).setCell ⟨b, 4, none⟩ v4).heap[k]? = w.heap[k]? := by
  rw [Below.heap_setCell _ _ _ _ h, Below.heap_setCell _ _ _ _ h, Below.heap_setCell _ _ _ _ h, Below.heap_setCell _ _ _ _ h, Below.heap_setCell _ _ _ _ h]
theorem grown_set5 {w w' : World} {r b : Nat} (h : w.grownBy w' (some r)) (hb : w.heap.size ≤ b) (v0 v1 v2 v3 v4 : Value) :
    w.grownBy (((((w'.setCell ⟨b, 0, none⟩ v0).setCell ⟨b, 1, none⟩ v1).setCell ⟨b, 2, none⟩ v2).setCell ⟨b, 3, none⟩ v3).setCell ⟨b, 4, none⟩ v4) (some r) :=
  grown_set_new (grown_set_new (grown_set_new (grown_set_new (grown_set_new h hb _ _) hb _ _) hb _ _) hb _ _) hb _ _
def zeroCs : Array Value := #[.int .u8 0, .int .i64 0, .string ⟨#[]⟩, .slice none 0 0, .slice none 0 0]
theorem ItemsAt.carry {P Q : Nat → Bool} {w w' : World} {l : List JV} {v : Value} (h : ItemsAt (hidden P w) v l) (hk : ∀ k, k < w.heap.size → P k = false → Q k = false ∧ w'.heap[k]? = w.heap[k]?) : ItemsAt (hidden Q w') v l := by
  have h1 : ValAt (hidden P w) (.mk 0 0 ⟨#[]⟩ [] l) (.agg #[.int .u8 0, .int .i64 0, .string ⟨#[]⟩, .slice none 0 0, v]) := valAt_mk (by decide) (by decide) (by decide) (by decide) (by decide) (strsAt_nil _) h
  obtain ⟨vn, vi, e, -, -, -, -, -, -, hi⟩ := valAt_iff.1 (h1.carry hk)
  simp only [Value.agg.injEq, Array.mk.injEq, List.cons.injEq] at e
  obtain ⟨-, -, -, -, rfl, -⟩ := e
  exact hi
theorem blkAt_new (w : World) (cs : Array Value) (T : TypeId) : BlkAt (w.alloc (.cells cs T)) w.heap.size T cs := heap_alloc_last w _
theorem moreQ_go {last : Int} {ms r : List Lx} {m : Mk} (h : moreQ last ms = .go m r) : ∃ m2, ms = .tok m2 :: .tok m :: r := by
  unfold moreQ at h
  match ms with
  | [] => simp at h
  | .err p e :: tl => simp at h
  | .tok m2 :: r2 =>
    dsimp only at h
    by_cases h1 : m2.k = last
    · rw [if_pos h1] at h; simp at h
    rw [if_neg h1] at h
    by_cases h2 : m2.k = 5
    · rw [if_pos h2] at h
      match r2 with
      | [] => simp at h
      | .err p e :: tl => simp at h
      | .tok m3 :: r3 =>
        simp only [MQ.go.injEq] at h
        obtain ⟨rfl, rfl⟩ := h
        exact ⟨m2, rfl⟩
    · rw [if_neg h2] at h; simp at h
theorem moreQ_fin {last : Int} {ms r : List Lx} {m : Mk} (h : moreQ last ms = .fin m r) : m.k = last := by
  unfold moreQ at h
  match ms with
  | [] => simp at h
  | .err p e :: tl => simp at h
  | .tok m2 :: r2 =>
    dsimp only at h
    by_cases h1 : m2.k = last
    · rw [if_pos h1] at h
      simp only [MQ.fin.injEq] at h
      rw [← h.1]; exact h1
    rw [if_neg h1] at h
    by_cases h2 : m2.k = 5
    · rw [if_pos h2] at h
      match r2 with
      | [] => simp at h
      | .err p e :: tl => simp at h
      | .tok m3 :: r3 => simp at h
    · rw [if_neg h2] at h; simp at h
set_option maxRecDepth 100000 in
set_option maxHeartbeats 8000000 in
theorem list_any {B w : World} {r d : Nat} {s : ByteArray} {m : Mk} {ms : List Lx} {c : Nat} (hs : s.size ≤ 65536) (hV : ValC B s r d) (hB : Bas B w r) (h : StAt w r s m ms c (12 - d : Int)) (hk : m.k ≠ 11) (hc : c ≤ 8192) (R : PR JV) (hR : Hid (listP (valP d) ms c = R)) :
    Calls Tryz.prog 27 #[.pointer (some ⟨r, 0, none⟩)] w (VPost R s r (12 - d : Int) w) := by
  have hlt := h.lt
  obtain ⟨dd, hdd⟩ : ∃ dd : Int, (12 - d : Int) = dd := ⟨_, rfl⟩
  have HDD := Lib.hid hdd
  rw [hdd] at h ⊢
  have hrb0 : BlkAt ((w.alloc (.cells zeroCs 26)).alloc (.cells #[.int .u8 4, .int .i64 0, .string ⟨#[]⟩, .slice none 0 0, .slice none 0 0] 26)) w.heap.size 26 zeroCs := (blkAt_new w zeroCs _).alloc _
  have hvb0 : BlkAt ((w.alloc (.cells zeroCs 26)).alloc (.cells #[.int .u8 4, .int .i64 0, .string ⟨#[]⟩, .slice none 0 0, .slice none 0 0] 26)) (w.heap.size + 1) 26 #[.int .u8 4, .int .i64 0, .string ⟨#[]⟩, .slice none 0 0, .slice none 0 0] := by
    have := blkAt_new (w.alloc (.cells zeroCs 26)) #[.int .u8 4, .int .i64 0, .string ⟨#[]⟩, .slice none 0 0, .slice none 0 0] 26
    rwa [size_al] at this
  have hb0 : Below w.heap.size w ((w.alloc (.cells zeroCs 26)).alloc (.cells #[.int .u8 4, .int .i64 0, .string ⟨#[]⟩, .slice none 0 0, .slice none 0 0] 26)) := bel_alloc (bel_alloc (Below.refl _ _) _) _
  have hs0 : ((w.alloc (.cells zeroCs 26)).alloc (.cells #[.int .u8 4, .int .i64 0, .string ⟨#[]⟩, .slice none 0 0, .slice none 0 0] 26)).heap.size = w.heap.size + 2 := by rw [size_al, size_al]
  match ms with
  | [] => exact absurd h.nonil hk
  | .err p e :: tl =>
    have hne := h.err
    have heb : (e != 0) = true := by rw [bne_iff_ne]; exact hne
    have hr := hR.out
    subst hr
    have HN := Lib.hid (next_err hs (hB.grown (grown_of hb0 _)) (h.keep hb0) hk (Lib.hid rfl))
    have HRB := Lib.hid hrb0
    have HB0 := Lib.hid hb0
    clear hR hB h hb0 hrb0 hvb0 hs0 hdd
    go_enter Tryz.func27, Tryz.ntmps27
    go_wp2_with fail
    refine HN.out.mono ?_
    rintro e' w' ⟨rfl, hg, hb⟩
    obtain ⟨z0, z1, z2, z3, z4, zf⟩ := blk5 (HRB.out.grown hg (by intro e; cases e; omega))
    have hg' : w.grownBy w' (some r) := (grown_of HB0.out _).trans hg
    go_wp2_with fail
    exact bodyPost_ret (v := .tuple #[zeroV, .int .i64 e]) (by simp [results, Tryz.results27, go_sem, zeroV, z0, z1, z2, z3, z4]) rfl ⟨grown_set5 hg' (Nat.le_refl _) _ _ _ _ _, rfl, hb.same (heap_set5 _ _ _ _ _ _ _ _ (by omega)), hne⟩
  | .tok m2 :: r2 =>
    have HN := Lib.hid (next_tok hs (hB.grown (grown_of hb0 _)) (h.keep hb0) hk (Lib.hid rfl))
    have HRB := Lib.hid hrb0
    have HVB := Lib.hid hvb0
    have HB0 := Lib.hid hb0
    have HS0 := Lib.hid hs0
    have HBas := Lib.hid hB
    have HDD := Lib.hid hdd
    have hr := hR.out
    unfold listP at hr
    dsimp only [nextL] at hr
    by_cases h4 : m2.k = 4
    · rw [if_pos h4] at hr
      subst hr
      have hb4 : (m2.k == 4) = true := by rw [h4]; rfl
      have h11 : m2.k ≠ 11 := by omega
      clear hR hB h hb0 hrb0 hvb0 hs0 hdd h4
      go_enter Tryz.func27, Tryz.ntmps27
      go_wp2_with fail
      refine HN.out.mono ?_
      rintro e' w' ⟨rfl, hg, hst⟩
      obtain ⟨z0, z1, z2, z3, z4, zf⟩ := blk5 (HRB.out.grown hg (by intro e; cases e; omega))
      obtain ⟨y0, y1, y2, y3, y4, yf⟩ := blk5 (HVB.out.grown hg (by intro e; cases e; omega))
      have hg' : w.grownBy w' (some r) := (grown_of HB0.out _).trans hg
      have hkc := hst.kcell
      have HST := Lib.hid hst
      clear hst
      go_wp2_with fail
      exact bodyPost_ret (v := .tuple #[.agg #[.int .u8 4, .int .i64 0, .string ⟨#[]⟩, .slice none 0 0, .slice none 0 0], .int .i64 0]) (by simp [results, Tryz.results27, go_sem, z0, z1, z2, z3, z4]) rfl ⟨grown_set5 hg' (Nat.le_refl _) _ _ _ _ _, ⟨4, 0, ⟨#[]⟩, none, 0, 0, none, 0, 0⟩, m2, rfl, valAt_leaf _ 4 0 ⟨#[]⟩ (by decide) (by decide) (by decide) (by decide) (by decide), HST.out.same (heap_set5 _ _ _ _ _ _ _ _ (by omega)), h11⟩
    · rw [if_neg h4] at hr
      have HRR : Hid (itemsP (valP d) (r2.length + 1) m2 r2 c [] = R) := hr
      have hb4 : (m2.k == 4) = false := beq_eq_false_iff_ne.2 h4
      obtain ⟨i0, hi, hz0, hz1, hz2⟩ := info_parts infoVal
      have HI := Lib.hid hi
      have HZ0 := Lib.hid hz0
      have HZ1 := Lib.hid hz1
      have HZ2 := Lib.hid hz2
      clear hr hR hB h hb0 hrb0 hvb0 hs0 hdd h4 hi hz0 hz1 hz2
      go_enter Tryz.func27, Tryz.ntmps27
      go_wp2_with fail
      refine HN.out.mono ?_
      rintro e' w' ⟨rfl, hg, hst⟩
      have HZB : Hid (BlkAt w' w.heap.size 26 zeroCs) := HRB.out.grown hg (by intro e; cases e; omega)
      have HYB : Hid (BlkAt w' (w.heap.size + 1) 26 #[.int .u8 4, .int .i64 0, .string ⟨#[]⟩, .slice none 0 0, .slice none 0 0]) := HVB.out.grown hg (by intro e; cases e; omega)
      have hg' : w.grownBy w' (some r) := (grown_of HB0.out _).trans hg
      have hs2 : w.heap.size + 2 ≤ w'.heap.size := by have := hg.size; rw [HS0.out] at this; exact this
      have hkc := hst.kcell
      have HST := Lib.hid hst
      clear hst hg HN HRB HVB HB0 HS0
      go_wp2_with fail
      clear hkc
      go_loopg [7] r2.length (fun gk u wr => ∃ (mk : Mk) (ms' : List Lx) (c' : Nat) (xs : List XI) (a : Option Addr) (l cp f : Nat), gk = ms'.length ∧ ms'.length < f ∧ xs.length ≤ c' ∧ c' ≤ 8192 ∧ w.heap.size + 2 ≤ wr.heap.size ∧ Hid (StAt wr r s mk ms' c' dd) ∧ Hid (BlkAt wr w.heap.size 26 zeroCs) ∧
        Hid (BlkAt wr (w.heap.size + 1) 26 #[.int .u8 4, .int .i64 0, .string ⟨#[]⟩, .slice none 0 0, .slice a l cp]) ∧ Hid (ItemsOwn wr (w.heap.size + 2) (.slice a l cp) xs) ∧ Hid (w.grownBy wr (some r)) ∧ Hid (itemsP (valP d) f mk ms' c' (xs.map Prod.snd) = R))
      case atStart => exact ⟨m2, r2, c, [], none, 0, 0, r2.length + 1, rfl, by omega, by simp, hc, hs2, HST, HZB, HYB, ItemsOwn.nil _ _, hg', HRR⟩
      case round =>
        obtain ⟨mk, ms', c', xs, a, l, cp, f, rfl, hf, hxs, hc', hs3, HSt, HZb, HYb, HIt, HGr, HRr⟩ := hrel
        clear HST HZB HYB hg' HRR hs2
        obtain ⟨f', rfl⟩ : ∃ f', f = f' + 1 := ⟨f - 1, by omega⟩
        obtain ⟨R1, hR1⟩ : ∃ R1, valP d mk ms' c' = R1 := ⟨_, rfl⟩
        have HC := Lib.hid (hV wr mk ms' c' (HBas.out.grown HGr.out) (by rw [HDD.out]; exact HSt.out))
        rw [HDD.out, hR1] at HC
        have hstep := HRr.out
        rw [itemsP, hR1] at hstep
        cases R1 with
        | bad p er =>
          dsimp only at hstep
          subst hstep
          clear hR1 HRr
          go_wp2_with fail
          refine HC.out.mono ?_
          rintro e' w1 ⟨hg1, rfl, hbad, hne⟩
          have heb : (er != 0) = true := by rw [bne_iff_ne]; exact hne
          have hs1 := hg1.size
          have hZ1 := HZb.out.grown hg1 (by intro e; cases e; omega)
          obtain ⟨z0, z1, z2, z3, z4, zf⟩ := blk5 (hZ1.alloc (.cells #[.int .u8 0, .int .i64 0, .string ⟨#[]⟩, .slice none 0 0, .slice none 0 0] 26))
          have hg2 := HGr.out.trans hg1
          simp only [zeroV]
          go_wp2_with fail
          have hr1 : r < w1.heap.size := by omega
          exact bodyPost_ret (v := .tuple #[zeroV, .int .i64 er]) (by simp [results, Tryz.results27, go_sem, zeroV, z0, z1, z2, z3, z4]) rfl ⟨grown_set5 (grown_alloc hg2 _) (Nat.le_refl _) _ _ _ _ _, rfl, hbad.same ((heap_set5 _ _ _ _ _ _ _ _ (by omega)).trans ((bel_alloc (Below.refl w1.heap.size w1) _).block r hr1)), hne⟩
        | ok V ms1 c1 =>
          dsimp only at hstep
          rw [moreP_Q] at hstep
          obtain ⟨hcnt1, hcnt2⟩ := val_count d _ _ _ _ _ _ hR1
          obtain ⟨pre1, -, hpre, -⟩ := val_takes d _ _ _ _ _ _ hR1
          have hml : ms'.length = pre1.length + ms1.length := by rw [hpre, List.length_append]
          obtain ⟨R2, hR2⟩ : ∃ R2, moreQ 4 ms1 = R2 := ⟨_, rfl⟩
          rw [hR2] at hstep
          have HR2 := Lib.hid hR2
          have HSTEP := Lib.hid hstep
          have HML := Lib.hid hml
          clear hR1 HRr hR2 hstep hpre hml
          go_wp2_with fail
          refine HC.out.mono ?_
          rintro e' w1 ⟨hg1, ⟨xk, xn, xt, xa, xl, xc, xb, xm, xe⟩, m1, rfl, hnew, hst1, hk1⟩
          simp only [VC.val]
          have hs1 := hg1.size
          have HZ1b : Hid (BlkAt w1 w.heap.size 26 zeroCs) := HZb.out.grown hg1 (by intro e; cases e; omega)
          have HY1b : Hid (BlkAt w1 (w.heap.size + 1) 26 #[.int .u8 4, .int .i64 0, .string ⟨#[]⟩, .slice none 0 0, .slice a l cp]) := HYb.out.grown hg1 (by intro e; cases e; omega)
          have HI1 : Hid (ItemsOwn w1 (w.heap.size + 2) (.slice a l cp) xs) := HIt.out.kept (by omega) hg1
          have HG1 : Hid (w.grownBy w1 (some r)) := HGr.out.trans hg1
          have HGq := Lib.hid hg1
          have HSt1 := Lib.hid hst1
          have HNew := Lib.hid hnew
          clear hg1 hst1 hnew HC
          obtain ⟨-, -, -, -, y4, yf⟩ := blk5 (HY1b.out.alloc (.cells #[.int .u8 xk, .int .i64 xn, .string xt, .slice xa xl xc, .slice xb xm xe] 26))
          go_wp2_with (at_builtin; refine wpList_append_own_at _ rfl _ _ 24 rfl (w.heap.size + 2) 26 i0 zeroV 5 80 Tryz.underlying24 HI.out HZ0.out HZ1.out HZ2.out rfl (by decide) _ _ _ rfl (World.ownsRow.alloc (World.ownsRow.alloc HI1.out.1 _) _) ⟨w1.heap.size + 1, 0, none⟩ 1 1 [.int .u8 xk, .int .i64 xn, .string xt, .slice xa xl xc, .slice xb xm xe] rfl rfl ?c1 ?c2 ?c3 ?c4 ?c5 ?_)
          case c1 =>
            intro j u hj
            have hadd : (⟨w1.heap.size + 1, 0, none⟩ : Addr).add j = ⟨w1.heap.size + 1, j, none⟩ := by unfold Addr.add; split <;> simp_all
            rw [hadd, cell_al_eq _ _ _ _ _ (by rw [size_al])]
            simpa using hj
          case c2 =>
            intro u hu
            simp only [List.mem_cons, List.not_mem_nil, or_false] at hu
            rcases hu with rfl | rfl | rfl | rfl | rfl <;> rfl
          case c3 => unfold maxLen; omega
          case c4 => omega
          case c5 => rw [size_al, size_al]; omega
          intro v' w4 hown4 hgrow _ hblk
          obtain ⟨g', cp', rfl, -, -⟩ := World.ownsRow.form hown4 (by omega)
          have hwa : ∀ k, k < w1.heap.size → ((w1.alloc (.cells #[.int .u8 xk, .int .i64 xn, .string xt, .slice xa xl xc, .slice xb xm xe] 26)).alloc (.cells #[.int .u8 xk, .int .i64 xn, .string xt, .slice xa xl xc, .slice xb xm xe] 26)).heap[k]? = w1.heap[k]? := fun k hk => (bel_alloc (bel_alloc (Below.refl _ _) _) _).block k hk
          have hwb : ∀ k, k < w1.heap.size → (Value.slice a l cp).ownBlock ≠ some k → w4.heap[k]? = w1.heap[k]? := fun k hk hne => (hgrow.block k (by rw [size_al, size_al]; omega) (fun e => hne e.symm)).trans (hwa k hk)
          have hlo : ∀ k, k < w.heap.size + 2 → (Value.slice a l cp).ownBlock ≠ some k := fun k hk e => by have := (World.ownsRow.lt HI1.out.1 k e).1; omega
          have hs4 : w1.heap.size + 2 ≤ w4.heap.size := by have := hgrow.size; rw [size_al, size_al] at this; omega
          have HZ4 : Hid (BlkAt w4 w.heap.size 26 zeroCs) := (hwb _ (by omega) (hlo _ (by omega))).trans HZ1b.out
          have HY4 : Hid (BlkAt w4 (w.heap.size + 1) 26 #[.int .u8 4, .int .i64 0, .string ⟨#[]⟩, .slice none 0 0, .slice a l cp]) := (hwb _ (by omega) (hlo _ (by omega))).trans HY1b.out
          have HS4 : Hid (StAt w4 r s m1 ms1 c1 dd) := HSt1.out.same (hwb _ (by omega) (hlo _ (by omega)))
          have HG4 : Hid (w.grownBy w4 (some r)) := ⟨hgrow.os.trans HG1.out.os, hgrow.tape.trans HG1.out.tape, hgrow.output.trans HG1.out.output, by omega, fun k hk hne => (hwb k (by omega) (hlo k (by omega))).trans (HG1.out.block k hk hne)⟩
          have HI4 : Hid (ItemsOwn w4 (w.heap.size + 2) (.slice (some ⟨g', 0, none⟩) (xs.length + 1) cp') (xs ++ [(⟨xk, xn, xt, xa, xl, xc, xb, xm, xe⟩, V)])) :=
            ItemsOwn.snoc HIt.out HNew.out hs3 hs1 (hblk.imp_right fun e => ⟨_, e, by omega⟩) hown4 (fun k hk _ hne => hwb k hk hne) (fun k hk hB => HGq.out.block k hk (fun e => by cases e; omega))
          obtain ⟨-, -, -, -, q4, qf⟩ := blk5 HY4.out
          clear hown4 hgrow hblk hwa hwb HI1 HZ1b HY1b HSt1 HNew HGq HG1 HIt HGr HYb HZb HSt yf y4
          go_wp2_with fail
          have hwc : ∀ k, k ≠ w.heap.size + 1 → (w4.setCell ⟨w.heap.size + 1, 4, none⟩ (.slice (some ⟨g', 0, none⟩) (xs.length + 1) cp')).heap[k]? = w4.heap[k]? := fun k hk => Below.heap_setCell _ _ _ _ hk
          have HZ5 : Hid (BlkAt (w4.setCell ⟨w.heap.size + 1, 4, none⟩ (.slice (some ⟨g', 0, none⟩) (xs.length + 1) cp')) w.heap.size 26 zeroCs) := (hwc _ (by omega)).trans HZ4.out
          have HY5 : Hid (BlkAt (w4.setCell ⟨w.heap.size + 1, 4, none⟩ (.slice (some ⟨g', 0, none⟩) (xs.length + 1) cp')) (w.heap.size + 1) 26 #[.int .u8 4, .int .i64 0, .string ⟨#[]⟩, .slice none 0 0, .slice (some ⟨g', 0, none⟩) (xs.length + 1) cp']) := BlkAt.set HY4.out 4 _
          have HS5 : Hid (StAt (w4.setCell ⟨w.heap.size + 1, 4, none⟩ (.slice (some ⟨g', 0, none⟩) (xs.length + 1) cp')) r s m1 ms1 c1 dd) := HS4.out.same (hwc _ (by omega))
          have HG5 : Hid (w.grownBy (w4.setCell ⟨w.heap.size + 1, 4, none⟩ (.slice (some ⟨g', 0, none⟩) (xs.length + 1) cp')) (some r)) := grown_set_new HG4.out (by omega) _ _
          have HI5 : Hid (ItemsOwn (w4.setCell ⟨w.heap.size + 1, 4, none⟩ (.slice (some ⟨g', 0, none⟩) (xs.length + 1) cp')) (w.heap.size + 2) (.slice (some ⟨g', 0, none⟩) (xs.length + 1) cp') (xs ++ [(⟨xk, xn, xt, xa, xl, xc, xb, xm, xe⟩, V)])) := HI4.out.set (by omega) _ _
          have hs5 : w1.heap.size + 2 ≤ (w4.setCell ⟨w.heap.size + 1, 4, none⟩ (.slice (some ⟨g', 0, none⟩) (xs.length + 1) cp')).heap.size := by show _ ≤ (w4.heap.modify _ _).size; rw [Array.size_modify]; exact hs4
          generalize w4.setCell ⟨w.heap.size + 1, 4, none⟩ (.slice (some ⟨g', 0, none⟩) (xs.length + 1) cp') = w5 at HZ5 HY5 HS5 HG5 HI5 hs5 ⊢
          clear hwc HZ4 HY4 HS4 HG4 HI4 hs4 qf q4 hlo
          have HM := Lib.hid (more_any hs (HBas.out.grown HG5.out) HS5.out hk1 4 R2 HR2)
          cases R2 with
          | bad p er =>
            have hfin := HSTEP.out
            dsimp only at hfin
            subst hfin
            refine HM.out.mono ?_
            rintro e' w6 ⟨hg6, rfl, hbad, hne⟩
            have heb : (er != 0) = true := by rw [bne_iff_ne]; exact hne
            have hs6 := hg6.size
            obtain ⟨z0, z1, z2, z3, z4, zf⟩ := blk5 (HZ5.out.grown hg6 (by intro e; cases e; omega))
            have hg' := HG5.out.trans hg6
            go_wp2_with fail
            exact bodyPost_ret (v := .tuple #[zeroV, .int .i64 er]) (by simp [results, Tryz.results27, go_sem, zeroV, z0, z1, z2, z3, z4]) rfl ⟨grown_set5 hg' (Nat.le_refl _) _ _ _ _ _, rfl, hbad.same (heap_set5 _ _ _ _ _ _ _ _ (by omega)), hne⟩
          | fin m6 ms6 =>
            have hfin := HSTEP.out
            dsimp only at hfin
            subst hfin
            refine HM.out.mono ?_
            rintro e' w6 ⟨hg6, rfl, hst6⟩
            have hs6 := hg6.size
            obtain ⟨z0, z1, z2, z3, z4, zf⟩ := blk5 (HZ5.out.grown hg6 (by intro e; cases e; omega))
            obtain ⟨y0, y1, y2, y3, y4, yf⟩ := blk5 (HY5.out.grown hg6 (by intro e; cases e; omega))
            have hg' := HG5.out.trans hg6
            have HI6 : Hid (ItemsOwn w6 (w.heap.size + 2) (.slice (some ⟨g', 0, none⟩) (xs.length + 1) cp') (xs ++ [(⟨xk, xn, xt, xa, xl, xc, xb, xm, xe⟩, V)])) := HI5.out.kept (by omega) hg6
            have HST := Lib.hid hst6
            have h11 : m6.k ≠ 11 := by have := moreQ_fin HR2.out; omega
            clear hst6
            go_wp2_with fail
            have hnew : NewV w.heap.size (((((w6.setCell ⟨w.heap.size, 0, none⟩ (.int .u8 4)).setCell ⟨w.heap.size, 1, none⟩ (.int .i64 0)).setCell ⟨w.heap.size, 2, none⟩ (.string ⟨#[]⟩)).setCell ⟨w.heap.size, 3, none⟩ (.slice none 0 0)).setCell ⟨w.heap.size, 4, none⟩ (.slice (some ⟨g', 0, none⟩) (xs.length + 1) cp')) (listV (xs.map Prod.snd ++ [V])) (.agg #[.int .u8 4, .int .i64 0, .string ⟨#[]⟩, .slice none 0 0, .slice (some ⟨g', 0, none⟩) (xs.length + 1) cp']) := by
              have hout := HI6.out.out (by rw [List.length_append]; simp; omega)
              rw [List.map_append] at hout
              exact valAt_mk (by decide) (by decide) (by decide) (by decide) (by decide) (strsAt_nil _) (hout.carry fun k hk hP => ⟨offB_none.2 (by have := offB_none.1 hP; omega), heap_set5 _ _ _ _ _ _ _ _ (by have := offB_none.1 hP; omega)⟩)
            exact bodyPost_ret (v := .tuple #[.agg #[.int .u8 4, .int .i64 0, .string ⟨#[]⟩, .slice none 0 0, .slice (some ⟨g', 0, none⟩) (xs.length + 1) cp'], .int .i64 0]) (by simp [results, Tryz.results27, go_sem, z0, z1, z2, z3, z4]) rfl ⟨grown_set5 hg' (Nat.le_refl _) _ _ _ _ _, ⟨4, 0, ⟨#[]⟩, none, 0, 0, some ⟨g', 0, none⟩, xs.length + 1, cp'⟩, m6, rfl, hnew, HST.out.same (heap_set5 _ _ _ _ _ _ _ _ (by omega)), h11⟩
          | go m6 ms6 =>
            have hfin := HSTEP.out
            dsimp only at hfin
            have HFIN := Lib.hid hfin
            obtain ⟨mc, hmc⟩ := moreQ_go HR2.out
            have hlen : ms1.length = ms6.length + 2 := by rw [hmc]; simp
            have hml := HML.out
            clear hfin hmc
            refine HM.out.mono ?_
            rintro e' w6 ⟨hg6, rfl, hst6⟩
            have hs6 := hg6.size
            have HZ6 : Hid (BlkAt w6 w.heap.size 26 zeroCs) := HZ5.out.grown hg6 (by intro e; cases e; omega)
            have HY6 : Hid (BlkAt w6 (w.heap.size + 1) 26 #[.int .u8 4, .int .i64 0, .string ⟨#[]⟩, .slice none 0 0, .slice (some ⟨g', 0, none⟩) (xs.length + 1) cp']) := HY5.out.grown hg6 (by intro e; cases e; omega)
            have HG6 : Hid (w.grownBy w6 (some r)) := HG5.out.trans hg6
            have HI6 : Hid (ItemsOwn w6 (w.heap.size + 2) (.slice (some ⟨g', 0, none⟩) (xs.length + 1) cp') (xs ++ [(⟨xk, xn, xt, xa, xl, xc, xb, xm, xe⟩, V)])) := HI5.out.kept (by omega) hg6
            have HST := Lib.hid hst6
            clear hst6
            go_wp2_with fail
            go_roundg ms6.length
            case rel => exact ⟨m6, ms6, c1, xs ++ [(⟨xk, xn, xt, xa, xl, xc, xb, xm, xe⟩, V)], _, _, _, f', rfl, by omega, by rw [List.length_append, List.length_singleton]; omega, hcnt2, by omega, HST, HZ6, HY6, HI6, HG6, by rw [List.map_append]; exact HFIN⟩
            case measure => omega
end Go.Proofs.YtfdecbfcddkoiaaGreatDoor
