/-
  legateref09.walk.list, over the contract of value.
-/
import Derived.Test.YtfdecbfcddkoiaaGreatDoorWkVal
namespace Go.Proofs.YtfdecbfcddkoiaaGreatDoor
open Go.RowKit

theorem add_zero_at (b j : Nat) : (⟨b, 0, none⟩ : Addr).add j = ⟨b, j, none⟩ := by unfold Addr.add; split <;> simp_all
/-- The contract of value, with so many lists and objects left. -/
def WVal (s : ByteArray) (r d : Nat) (k : Int) : Prop := ∀ (w : World) (m : Mk) (ms : List Lx) (c : Nat), WSt w r s m ms c → c ≤ 8192 → Calls Tryz.prog 15 #[.pointer (some ⟨r, 0, none⟩), .int .i64 k] w (WPost (valP d m ms c) s r w)
set_option maxRecDepth 100000 in
set_option maxHeartbeats 8000000 in
theorem wlist_any {w : World} {r d : Nat} {s : ByteArray} {m : Mk} {ms : List Lx} {c : Nat} (deep : Int) (hd0 : 0 ≤ deep) (hd1 : deep ≤ 12) (hs : s.size ≤ 65536) (hV : WVal s r d (deep + 1)) (h : WSt w r s m ms c) (hk : m.k ≠ 11) (hc : c ≤ 8192) (R : PR JV) (hR : Hid (listP (valP d) ms c = R)) :
    Calls Tryz.prog 32 #[.pointer (some ⟨r, 0, none⟩), .int .i64 deep] w (WPost R s r w) := by
  have hlt := h.lt
  have hrb0 : BlkAt ((w.alloc (.cells zeroCs 26)).alloc (.cells #[.int .u8 4, .int .i64 0, .string ⟨#[]⟩, .slice none 0 0, .slice none 0 0] 26)) w.heap.size 26 zeroCs := (blkAt_new w zeroCs _).alloc _
  have hvb0 : BlkAt ((w.alloc (.cells zeroCs 26)).alloc (.cells #[.int .u8 4, .int .i64 0, .string ⟨#[]⟩, .slice none 0 0, .slice none 0 0] 26)) (w.heap.size + 1) 26 #[.int .u8 4, .int .i64 0, .string ⟨#[]⟩, .slice none 0 0, .slice none 0 0] := by
    have := blkAt_new (w.alloc (.cells zeroCs 26)) #[.int .u8 4, .int .i64 0, .string ⟨#[]⟩, .slice none 0 0, .slice none 0 0] 26
    rwa [size_al] at this
  have hb0 : Below w.heap.size w ((w.alloc (.cells zeroCs 26)).alloc (.cells #[.int .u8 4, .int .i64 0, .string ⟨#[]⟩, .slice none 0 0, .slice none 0 0] 26)) := bel_alloc (bel_alloc (Below.refl _ _) _) _
  have hs0 : (((w.alloc (.cells zeroCs 26)).alloc (.cells #[.int .u8 4, .int .i64 0, .string ⟨#[]⟩, .slice none 0 0, .slice none 0 0] 26))).heap.size = w.heap.size + 2 := by rw [size_al, size_al]
  match ms with
  | [] => exact absurd h.nonil hk
  | .err p e :: tl =>
    have hr := hR.out
    subst hr
    have HN := Lib.hid (wnext_err hs (h.keep hb0) hk (Lib.hid rfl))
    have HRB := Lib.hid hrb0
    have HB0 := Lib.hid hb0
    clear hR h hb0 hrb0 hvb0 hs0
    go_enter Tryz.func32, Tryz.ntmps32
    go_wp2_with fail
    refine HN.out.mono ?_
    rintro e' w' ⟨rfl, hg, hb⟩
    obtain ⟨z0, z1, z2, z3, z4, zf⟩ := blk5 (HRB.out.grown hg (by intro e; cases e; omega))
    have hg' : w.grownBy w' (some r) := (grown_of HB0.out _).trans hg
    go_wp2_with fail
    exact bodyPost_ret (v := .tuple #[zeroV, .bool false]) (by simp [results, Tryz.results32, go_sem, zeroV, z0, z1, z2, z3, z4]) rfl ⟨grown_set5 hg' (Nat.le_refl _) _ _ _ _ _, rfl, hb.same (heap_set5 _ _ _ _ _ _ _ _ (by omega))⟩
  | .tok m2 :: r2 =>
    have HN := Lib.hid (wnext_tok hs (h.keep hb0) hk (Lib.hid rfl))
    have HRB := Lib.hid hrb0
    have HVB := Lib.hid hvb0
    have HB0 := Lib.hid hb0
    have HS0 := Lib.hid hs0
    have hr := hR.out
    unfold listP at hr
    dsimp only [nextL] at hr
    by_cases h4 : m2.k = 4
    · rw [if_pos h4] at hr
      subst hr
      have hb4 : (m2.k == 4) = true := by rw [h4]; rfl
      have h11 : m2.k ≠ 11 := by omega
      clear hR h hb0 hrb0 hvb0 hs0 h4
      go_enter Tryz.func32, Tryz.ntmps32
      go_wp2_with fail
      refine HN.out.mono ?_
      rintro e' w' ⟨rfl, hg, hst⟩
      obtain ⟨z0, z1, z2, z3, z4, zf⟩ := blk5 (HRB.out.grown hg (by intro e; cases e; omega))
      obtain ⟨y0, y1, y2, y3, y4, yf⟩ := blk5 (HVB.out.grown hg (by intro e; cases e; omega))
      have hg' : w.grownBy w' (some r) := (grown_of HB0.out _).trans hg
      have hkc := hst.kcell
      have HST := Lib.hid hst
      clear hst
      go_wp2_with fail
      exact bodyPost_ret (v := .tuple #[.agg #[.int .u8 4, .int .i64 0, .string ⟨#[]⟩, .slice none 0 0, .slice none 0 0], .bool true]) (by simp [results, Tryz.results32, go_sem, z0, z1, z2, z3, z4]) rfl ⟨grown_set5 hg' (Nat.le_refl _) _ _ _ _ _, ⟨4, 0, ⟨#[]⟩, none, 0, 0, none, 0, 0⟩, m2, rfl, valAt_leaf _ 4 0 ⟨#[]⟩ (by decide) (by decide) (by decide) (by decide) (by decide), HST.out.same (heap_set5 _ _ _ _ _ _ _ _ (by omega)), h11⟩
    · rw [if_neg h4] at hr
      have HRR : Hid (itemsP (valP d) (r2.length + 1) m2 r2 c [] = R) := hr
      have hb4 : (m2.k == 4) = false := beq_eq_false_iff_ne.2 h4
      obtain ⟨i0, hi, hz0, hz1, hz2⟩ := info_parts infoVal
      have HJ := Lib.hid hi
      have HJ0 := Lib.hid hz0
      have HJ1 := Lib.hid hz1
      have HJ2 := Lib.hid hz2
      clear hr hR h hb0 hrb0 hvb0 hs0 h4 hi hz0 hz1 hz2
      go_enter Tryz.func32, Tryz.ntmps32
      go_wp2_with fail
      refine HN.out.mono ?_
      rintro e' w' ⟨rfl, hg, hst⟩
      have HZB : Hid (BlkAt w' w.heap.size 26 zeroCs) := HRB.out.grown hg (by intro e; cases e; omega)
      have HYB : Hid (BlkAt w' (w.heap.size + 1) 26 #[.int .u8 4, .int .i64 0, .string ⟨#[]⟩, .slice none 0 0, .slice none 0 0]) := HVB.out.grown hg (by intro e; cases e; omega)
      have hg' : w.grownBy w' (some r) := (grown_of HB0.out _).trans hg
      have hs2 : w.heap.size + 2 ≤ w'.heap.size := by have := hg.size; rw [HS0.out] at this; exact this
      have hkc := hst.kcell
      have HST := Lib.hid hst
      clear hst hg HN HRB HVB HB0 HS0
      go_wp2_with fail
      clear hkc
      go_loopg [7, 8] r2.length (fun gk u1 u2 wr => ∃ (mk : Mk) (ms' : List Lx) (c' : Nat) (xs : List XI) (a : Option Addr) (l cp f : Nat), gk = ms'.length ∧ ms'.length < f ∧ xs.length ≤ c' ∧ c' ≤ 8192 ∧ w.heap.size + 2 ≤ wr.heap.size ∧ Hid (WSt wr r s mk ms' c') ∧ Hid (BlkAt wr w.heap.size 26 zeroCs) ∧
        Hid (BlkAt wr (w.heap.size + 1) 26 #[.int .u8 4, .int .i64 0, .string ⟨#[]⟩, .slice none 0 0, .slice a l cp]) ∧ Hid (ItemsOwn wr (w.heap.size + 2) (.slice a l cp) xs) ∧ Hid (w.grownBy wr (some r)) ∧ Hid (itemsP (valP d) f mk ms' c' (xs.map Prod.snd) = R))
      case atStart => exact ⟨m2, r2, c, [], none, 0, 0, r2.length + 1, rfl, by omega, by simp, hc, hs2, HST, HZB, HYB, ItemsOwn.nil _ _, hg', HRR⟩
      case round =>
        obtain ⟨mk, ms', c', xs, a, l, cp, f, rfl, hf, hxs, hc', hs3, HSt, HZb, HYb, HIt, HGr, HRr⟩ := hrel
        clear HST HZB HYB hg' HRR hs2
        obtain ⟨f', rfl⟩ : ∃ f', f = f' + 1 := ⟨f - 1, by omega⟩
        obtain ⟨R1, hR1⟩ : ∃ R1, valP d mk ms' c' = R1 := ⟨_, rfl⟩
        have HC := Lib.hid (hV wr mk ms' c' HSt.out hc')
        rw [hR1] at HC
        have hstep := HRr.out
        rw [itemsP, hR1] at hstep
        cases R1 with
        | bad p er =>
          dsimp only at hstep
          subst hstep
          clear hR1 HRr
          go_wp2_with fail
          refine HC.out.mono ?_
          rintro e' w1 ⟨hg1, rfl, hbad⟩
          have hs1 := hg1.size
          have hZ1 := HZb.out.grown hg1 (by intro e; cases e; omega)
          obtain ⟨z0, z1, z2, z3, z4, zf⟩ := blk5 (hZ1.alloc (.cells #[.int .u8 0, .int .i64 0, .string ⟨#[]⟩, .slice none 0 0, .slice none 0 0] 26))
          have hg2 := HGr.out.trans hg1
          simp only [zeroV]
          go_wp2_with fail
          have hr1 : r < w1.heap.size := by omega
          exact bodyPost_ret (v := .tuple #[zeroV, .bool false]) (by simp [results, Tryz.results32, go_sem, zeroV, z0, z1, z2, z3, z4]) rfl ⟨grown_set5 (grown_alloc hg2 _) (Nat.le_refl _) _ _ _ _ _, rfl, hbad.same ((heap_set5 _ _ _ _ _ _ _ _ (by omega)).trans ((bel_alloc (Below.refl w1.heap.size w1) _).block r hr1))⟩
        | ok V ms1 c1 =>
          dsimp only at hstep
          obtain ⟨hcnt1, hcnt2⟩ := val_count d _ _ _ _ _ _ hR1
          obtain ⟨pre1, -, hpre, -⟩ := val_takes d _ _ _ _ _ _ hR1
          have hml : ms'.length = pre1.length + ms1.length := by rw [hpre, List.length_append]
          have HML := Lib.hid hml
          have HSTEP := Lib.hid hstep
          clear hR1 HRr hstep hpre hml
          go_wp2_with fail
          refine HC.out.mono ?_
          rintro e' w1 ⟨hg1, ⟨xk, xn, xt, xa, xl, xc, xb, xm, xe⟩, m1, rfl, hnew, hst1, hk1⟩
          simp only [VC.val]
          have hs1 := hg1.size
          have hbA : Below w1.heap.size w1 (w1.alloc (.cells #[.int .u8 xk, .int .i64 xn, .string xt, .slice xa xl xc, .slice xb xm xe] 26)) := bel_alloc (Below.refl _ _) _
          have HZ1 : Hid (BlkAt (w1.alloc (.cells #[.int .u8 xk, .int .i64 xn, .string xt, .slice xa xl xc, .slice xb xm xe] 26)) w.heap.size 26 zeroCs) := (HZb.out.grown hg1 (by intro e; cases e; omega)).alloc _
          have HY1 : Hid (BlkAt (w1.alloc (.cells #[.int .u8 xk, .int .i64 xn, .string xt, .slice xa xl xc, .slice xb xm xe] 26)) (w.heap.size + 1) 26 #[.int .u8 4, .int .i64 0, .string ⟨#[]⟩, .slice none 0 0, .slice a l cp]) := (HYb.out.grown hg1 (by intro e; cases e; omega)).alloc _
          have HX1 : Hid (BlkAt (w1.alloc (.cells #[.int .u8 xk, .int .i64 xn, .string xt, .slice xa xl xc, .slice xb xm xe] 26)) w1.heap.size 26 #[.int .u8 xk, .int .i64 xn, .string xt, .slice xa xl xc, .slice xb xm xe]) := blkAt_new w1 _ _
          have HI1 : Hid (ItemsOwn w1 (w.heap.size + 2) (.slice a l cp) xs) := HIt.out.kept (by omega) hg1
          have HG1 : Hid (w.grownBy (w1.alloc (.cells #[.int .u8 xk, .int .i64 xn, .string xt, .slice xa xl xc, .slice xb xm xe] 26)) (some r)) := grown_alloc (HGr.out.trans hg1) _
          have HGq := Lib.hid hg1
          have hst2 := hst1.keep hbA
          have HNew := Lib.hid hnew
          have hsA : (w1.alloc (.cells #[.int .u8 xk, .int .i64 xn, .string xt, .slice xa xl xc, .slice xb xm xe] 26)).heap.size = w1.heap.size + 1 := size_al _ _
          have hown1 := World.ownsRow.alloc HI1.out.1 (.cells #[.int .u8 xk, .int .i64 xn, .string xt, .slice xa xl xc, .slice xb xm xe] 26)
          have HOW1 := Lib.hid hown1
          have HWA := Lib.hid (show ∀ k, k < w1.heap.size → (w1.alloc (.cells #[.int .u8 xk, .int .i64 xn, .string xt, .slice xa xl xc, .slice xb xm xe] 26)).heap[k]? = w1.heap[k]? from fun k hk => hbA.block k hk)
          clear hg1 hnew HC hst1 hbA hown1
          have hlow1 : ∀ k, k < w.heap.size + 2 → (Value.slice a l cp).ownBlock ≠ some k := fun k hk e => by have := (World.ownsRow.lt HI1.out.1 k e).1; omega
          have HLO := Lib.hid hlow1
          clear hlow1
          match ms1 with
          | [] => exact absurd hst2.nonil hk1
          | .err p e :: tl =>
            have hfin := HSTEP.out
            dsimp only [moreP, nextL] at hfin
            subst hfin
            have HNX := Lib.hid (wnext_err hs hst2 hk1 (Lib.hid rfl))
            clear hst2
            go_wp2_with fail
            generalize w1.alloc (.cells #[.int .u8 xk, .int .i64 xn, .string xt, .slice xa xl xc, .slice xb xm xe] 26) = wA at HNX HZ1 HY1 HX1 HG1 hsA HOW1 HWA ⊢
            refine HNX.out.mono ?_
            rintro e' w2 ⟨rfl, hg2, hbad⟩
            have hs4 := hg2.size
            obtain ⟨z0, z1, z2, z3, z4, zf⟩ := blk5 (HZ1.out.grown hg2 (by intro e; cases e; omega))
            have hg3 := HG1.out.trans hg2
            go_wp2_with fail
            exact bodyPost_ret (v := .tuple #[zeroV, .bool false]) (by simp [results, Tryz.results32, go_sem, zeroV, z0, z1, z2, z3, z4]) rfl ⟨grown_set5 hg3 (Nat.le_refl _) _ _ _ _ _, rfl, hbad.same (heap_set5 _ _ _ _ _ _ _ _ (by omega))⟩
          | .tok m2 :: r2 =>
            have hfin := HSTEP.out
            dsimp only [moreP, nextL] at hfin
            have HFIN := Lib.hid hfin
            have HNX := Lib.hid (wnext_tok hs hst2 hk1 (Lib.hid rfl))
            clear hst2 hfin HSTEP
            go_wp2_with fail
            generalize w1.alloc (.cells #[.int .u8 xk, .int .i64 xn, .string xt, .slice xa xl xc, .slice xb xm xe] 26) = wA at HNX HZ1 HY1 HX1 HG1 hsA HOW1 HWA ⊢
            refine HNX.out.mono ?_
            rintro e' w2 ⟨rfl, hg2, hst3⟩
            have hs4 := hg2.size
            have HZ2 : Hid (BlkAt w2 w.heap.size 26 zeroCs) := HZ1.out.grown hg2 (by intro e; cases e; omega)
            have HY2 : Hid (BlkAt w2 (w.heap.size + 1) 26 #[.int .u8 4, .int .i64 0, .string ⟨#[]⟩, .slice none 0 0, .slice a l cp]) := HY1.out.grown hg2 (by intro e; cases e; omega)
            have HG2 : Hid (w.grownBy w2 (some r)) := HG1.out.trans hg2
            obtain ⟨x0, x1, x2, x3, x4, -⟩ := blk5 (HX1.out.grown hg2 (by intro e; cases e; omega))
            obtain ⟨-, -, -, -, y4, yf⟩ := blk5 HY2.out
            have HST3 := Lib.hid hst3
            have hown2 := HOW1.out.kept hg2 (by
              by_cases e : (Value.slice a l cp).ownBlock = none
              · exact .inl e
              · exact .inr (fun e2 => HLO.out r (by omega) e2))
            have HWB := Lib.hid (show ∀ k, k < w1.heap.size → w.heap.size + 2 ≤ k → w2.heap[k]? = w1.heap[k]? from fun k hk hk2 => (hg2.block k (by omega) (fun e => by cases e; omega)).trans (HWA.out k hk))
            have hsl : xs.length = l ∨ True := .inr trivial
            clear hg2 hst3 HZ1 HY1 HG1 HX1 HOW1 HWA hsl
            go_wp2_with (at_builtin; refine wpList_append_own_at _ rfl _ _ 24 rfl (w.heap.size + 2) 26 i0 zeroV 5 80 Tryz.underlying24 HJ.out HJ0.out HJ1.out HJ2.out rfl (by decide) _ _ _ rfl (World.ownsRow.alloc hown2 _) ⟨w2.heap.size, 0, none⟩ 1 1 [.int .u8 xk, .int .i64 xn, .string xt, .slice xa xl xc, .slice xb xm xe] rfl rfl ?c1 ?c2 ?c3 ?c4 ?c5 ?_)
            case c1 =>
              intro j u hj
              rw [add_zero_at, cell_al_eq _ _ _ _ _ rfl]
              simpa using hj
            case c2 =>
              intro u hu
              simp only [List.mem_cons, List.not_mem_nil, or_false] at hu
              rcases hu with rfl | rfl | rfl | rfl | rfl <;> rfl
            case c3 => unfold maxLen; omega
            case c4 => omega
            case c5 => rw [size_al]; omega
            intro v' w4 hown4 hgrow _ hblk
            obtain ⟨g', cp', rfl, -, -⟩ := World.ownsRow.form hown4 (by omega)
            have hwa : ∀ k, k < w2.heap.size → (w2.alloc (.cells #[.int .u8 xk, .int .i64 xn, .string xt, .slice xa xl xc, .slice xb xm xe] 26)).heap[k]? = w2.heap[k]? := fun k hk => (bel_alloc (Below.refl _ _) _).block k hk
            have hwb : ∀ k, k < w2.heap.size → (Value.slice a l cp).ownBlock ≠ some k → w4.heap[k]? = w2.heap[k]? := fun k hk hne => (hgrow.block k (by rw [size_al]; omega) (fun e => hne e.symm)).trans (hwa k hk)
            have hs5 : w2.heap.size + 1 ≤ w4.heap.size := by have := hgrow.size; rw [size_al] at this; exact this
            have HZ4 : Hid (BlkAt w4 w.heap.size 26 zeroCs) := (hwb _ (by omega) (HLO.out _ (by omega))).trans HZ2.out
            have HY4 : Hid (BlkAt w4 (w.heap.size + 1) 26 #[.int .u8 4, .int .i64 0, .string ⟨#[]⟩, .slice none 0 0, .slice a l cp]) := (hwb _ (by omega) (HLO.out _ (by omega))).trans HY2.out
            have HS4 : Hid (WSt w4 r s m2 r2 c1) := HST3.out.same (hwb _ (by omega) (HLO.out _ (by omega)))
            have HG4 : Hid (w.grownBy w4 (some r)) := ⟨hgrow.os.trans HG2.out.os, hgrow.tape.trans HG2.out.tape, hgrow.output.trans HG2.out.output, by omega, fun k hk hne => (hwb k (by omega) (HLO.out k (by omega))).trans (HG2.out.block k hk hne)⟩
            have HI4 : Hid (ItemsOwn w4 (w.heap.size + 2) (.slice (some ⟨g', 0, none⟩) (xs.length + 1) cp') (xs ++ [(⟨xk, xn, xt, xa, xl, xc, xb, xm, xe⟩, V)])) :=
              ItemsOwn.snoc HIt.out HNew.out hs3 hs1 (hblk.imp_right fun e => ⟨_, e, by omega⟩) hown4 (fun k hk hB hne => (hwb k (by omega) hne).trans (HWB.out k hk hB)) (fun k hk hB => HGq.out.block k hk (fun e => by cases e; omega))
            obtain ⟨q0, q1, q2, q3, q4, qf⟩ := blk5 HY4.out
            obtain ⟨z0, z1, z2, z3, z4, zf⟩ := blk5 HZ4.out
            have hkc := HS4.out.kcell
            have hne1 : w.heap.size + 1 ≠ r := by omega
            have hrl : r < w4.heap.size := by omega
            have hwc : ∀ k, k ≠ w.heap.size + 1 → (w4.setCell ⟨w.heap.size + 1, 4, none⟩ (.slice (some ⟨g', 0, none⟩) (xs.length + 1) cp')).heap[k]? = w4.heap[k]? := fun k hk => Below.heap_setCell _ _ _ _ hk
            have HZ5 : Hid (BlkAt (w4.setCell ⟨w.heap.size + 1, 4, none⟩ (.slice (some ⟨g', 0, none⟩) (xs.length + 1) cp')) w.heap.size 26 zeroCs) := (hwc _ (by omega)).trans HZ4.out
            have HY5 : Hid (BlkAt (w4.setCell ⟨w.heap.size + 1, 4, none⟩ (.slice (some ⟨g', 0, none⟩) (xs.length + 1) cp')) (w.heap.size + 1) 26 #[.int .u8 4, .int .i64 0, .string ⟨#[]⟩, .slice none 0 0, (.slice (some ⟨g', 0, none⟩) (xs.length + 1) cp')]) := BlkAt.set HY4.out 4 _
            have HS5 : Hid (WSt (w4.setCell ⟨w.heap.size + 1, 4, none⟩ (.slice (some ⟨g', 0, none⟩) (xs.length + 1) cp')) r s m2 r2 c1) := HS4.out.same (hwc _ (by omega))
            have HG5 : Hid (w.grownBy (w4.setCell ⟨w.heap.size + 1, 4, none⟩ (.slice (some ⟨g', 0, none⟩) (xs.length + 1) cp')) (some r)) := grown_set_new HG4.out (by omega) _ _
            have HI5 : Hid (ItemsOwn (w4.setCell ⟨w.heap.size + 1, 4, none⟩ (.slice (some ⟨g', 0, none⟩) (xs.length + 1) cp')) (w.heap.size + 2) (.slice (some ⟨g', 0, none⟩) (xs.length + 1) cp') (xs ++ [(⟨xk, xn, xt, xa, xl, xc, xb, xm, xe⟩, V)])) := HI4.out.set (by omega) _ _
            have hs6 : w2.heap.size + 1 ≤ (w4.setCell ⟨w.heap.size + 1, 4, none⟩ (.slice (some ⟨g', 0, none⟩) (xs.length + 1) cp')).heap.size := by show _ ≤ (w4.heap.modify _ _).size; rw [Array.size_modify]; exact hs5
            clear hown4 hgrow hblk hwa hwb hwc HZ2 HY2 HST3 HG2 HIt HNew HGq HWB HI1 HG4 HI4 x0 x1 x2 x3 x4 y4 yf HGr HYb HZb HSt
            by_cases h4 : m2.k = 4
            · have hb4 : (m2.k == 4) = true := by rw [h4]; rfl
              have hfin := HFIN.out
              rw [if_pos h4] at hfin
              subst hfin
              have h11 : m2.k ≠ 11 := by omega
              clear h4 HFIN
              go_wp2_with fail
              have hnew : NewV w.heap.size ((((((w4.setCell ⟨w.heap.size + 1, 4, none⟩ (.slice (some ⟨g', 0, none⟩) (xs.length + 1) cp')).setCell ⟨w.heap.size, 0, none⟩ (.int .u8 4)).setCell ⟨w.heap.size, 1, none⟩ (.int .i64 0)).setCell ⟨w.heap.size, 2, none⟩ (.string ⟨#[]⟩)).setCell ⟨w.heap.size, 3, none⟩ (.slice none 0 0)).setCell ⟨w.heap.size, 4, none⟩ (.slice (some ⟨g', 0, none⟩) (xs.length + 1) cp')) (listV (xs.map Prod.snd ++ [V])) (.agg #[.int .u8 4, .int .i64 0, .string ⟨#[]⟩, .slice none 0 0, (.slice (some ⟨g', 0, none⟩) (xs.length + 1) cp')]) := by
                have hout := HI5.out.out (by rw [List.length_append]; simp; omega)
                rw [List.map_append] at hout
                exact valAt_mk (by decide) (by decide) (by decide) (by decide) (by decide) (strsAt_nil _) (hout.carry fun k hk hP => ⟨offB_none.2 (by have := offB_none.1 hP; omega), heap_set5 _ _ _ _ _ _ _ _ (by have := offB_none.1 hP; omega)⟩)
              exact bodyPost_ret (v := .tuple #[.agg #[.int .u8 4, .int .i64 0, .string ⟨#[]⟩, .slice none 0 0, (.slice (some ⟨g', 0, none⟩) (xs.length + 1) cp')], .bool true]) (by simp [results, Tryz.results32, go_sem, z0, z1, z2, z3, z4]) rfl ⟨grown_set5 HG5.out (Nat.le_refl _) _ _ _ _ _, ⟨4, 0, ⟨#[]⟩, none, 0, 0, some ⟨g', 0, none⟩, xs.length + 1, cp'⟩, m2, rfl, hnew, HS5.out.same (heap_set5 _ _ _ _ _ _ _ _ (by omega)), h11⟩
            · have hb4 : (m2.k == 4) = false := beq_eq_false_iff_ne.2 h4
              by_cases h5 : m2.k = 5
              · have hb5 : (m2.k != 5) = false := by rw [h5]; rfl
                have hfin := HFIN.out
                rw [if_neg h4, if_pos h5] at hfin
                have h11 : m2.k ≠ 11 := by omega
                have hst6 := HS5.out
                match r2 with
                | [] => exact absurd hst6.nonil h11
                | .err p e :: tl =>
                  dsimp only [nextL] at hfin
                  subst hfin
                  have HNX := Lib.hid (wnext_err hs hst6 h11 (Lib.hid rfl))
                  clear h4 h5 HFIN hst6
                  go_wp2_with fail
                  generalize (w4.setCell ⟨w.heap.size + 1, 4, none⟩ (.slice (some ⟨g', 0, none⟩) (xs.length + 1) cp')) = w5 at HNX HZ5 HG5 hs6 ⊢
                  refine HNX.out.mono ?_
                  rintro e' w6 ⟨rfl, hg6, hbad⟩
                  have hs7 := hg6.size
                  obtain ⟨z0, z1, z2, z3, z4, zf⟩ := blk5 (HZ5.out.grown hg6 (by intro e; cases e; omega))
                  have hg7 := HG5.out.trans hg6
                  go_wp2_with fail
                  exact bodyPost_ret (v := .tuple #[zeroV, .bool false]) (by simp [results, Tryz.results32, go_sem, zeroV, z0, z1, z2, z3, z4]) rfl ⟨grown_set5 hg7 (Nat.le_refl _) _ _ _ _ _, rfl, hbad.same (heap_set5 _ _ _ _ _ _ _ _ (by omega))⟩
                | .tok m3 :: r3 =>
                  dsimp only [nextL] at hfin
                  have HFN := Lib.hid hfin
                  have HNX := Lib.hid (wnext_tok hs hst6 h11 (Lib.hid rfl))
                  have hml := HML.out
                  simp only [List.length_cons] at hml
                  clear h4 h5 HFIN hst6 hfin
                  go_wp2_with fail
                  generalize (w4.setCell ⟨w.heap.size + 1, 4, none⟩ (.slice (some ⟨g', 0, none⟩) (xs.length + 1) cp')) = w5 at HNX HZ5 HY5 HI5 HG5 hs6 ⊢
                  refine HNX.out.mono ?_
                  rintro e' w6 ⟨rfl, hg6, hst7⟩
                  have hs7 := hg6.size
                  have HZ6 : Hid (BlkAt w6 w.heap.size 26 zeroCs) := HZ5.out.grown hg6 (by intro e; cases e; omega)
                  have HY6 : Hid (BlkAt w6 (w.heap.size + 1) 26 #[.int .u8 4, .int .i64 0, .string ⟨#[]⟩, .slice none 0 0, (.slice (some ⟨g', 0, none⟩) (xs.length + 1) cp')]) := HY5.out.grown hg6 (by intro e; cases e; omega)
                  have HG6 : Hid (w.grownBy w6 (some r)) := HG5.out.trans hg6
                  have HI6 : Hid (ItemsOwn w6 (w.heap.size + 2) (.slice (some ⟨g', 0, none⟩) (xs.length + 1) cp') (xs ++ [(⟨xk, xn, xt, xa, xl, xc, xb, xm, xe⟩, V)])) := HI5.out.kept (by omega) hg6
                  have HST := Lib.hid hst7
                  clear hst7
                  go_wp2_with fail
                  go_roundg r3.length
                  case rel => exact ⟨m3, r3, c1, xs ++ [(⟨xk, xn, xt, xa, xl, xc, xb, xm, xe⟩, V)], _, _, _, f', rfl, by omega, by rw [List.length_append, List.length_singleton]; omega, hcnt2, by omega, HST, HZ6, HY6, HI6, HG6, by rw [List.map_append]; exact HFN⟩
                  case measure => omega
              · have hb5 : (m2.k != 5) = true := by rw [bne_iff_ne]; exact h5
                have hfin := HFIN.out
                rw [if_neg h4, if_neg h5] at hfin
                obtain ⟨v, hv⟩ : ∃ v, wrongE m2 3 = v := ⟨_, rfl⟩
                rw [hv] at hfin
                subst hfin
                have HBD := Lib.hid (wbad_any HS5.out 3 v hv)
                clear h4 h5 HFIN hv
                go_wp2_with fail
                generalize (w4.setCell ⟨w.heap.size + 1, 4, none⟩ (.slice (some ⟨g', 0, none⟩) (xs.length + 1) cp')) = w5 at HBD HZ5 HG5 hs6 ⊢
                refine HBD.out.mono ?_
                rintro e' w6 ⟨rfl, hg6, hbad⟩
                have hs7 := hg6.size
                obtain ⟨z0, z1, z2, z3, z4, zf⟩ := blk5 (HZ5.out.grown hg6 (by intro e; cases e; omega))
                have hg7 := HG5.out.trans hg6
                simp only [zeroV]
                go_wp2_with fail
                exact bodyPost_ret (v := .tuple #[zeroV, .bool false]) (by simp [results, Tryz.results32, go_sem, zeroV, z0, z1, z2, z3, z4]) rfl ⟨grown_set5 hg7 (Nat.le_refl _) _ _ _ _ _, rfl, hbad.same (heap_set5 _ _ _ _ _ _ _ _ (by omega))⟩
end Go.Proofs.YtfdecbfcddkoiaaGreatDoor
