/-
 canon.Encode: its two closures, and the whole.
-/
import Derived.Test.YtmggmpigpiaagaaGreatDoorSignP
import Derived.Test.YtmggmpigpiaagaaGreatDoorLexPlain
namespace Go.Proofs.YtmggmpigpiaagaaGreatDoor
set_option maxRecDepth 100000
open Go.RowKit
theorem kept_of {b : Option Nat} {w w' : World} (hb : Below w.heap.size w w') : Lib.OthersKept 5 b w w' := fun k o hk _ _ => by
 rw [hb.block k (Array.getElem?_eq_some_iff.1 hk).1]; exact hk
structure Wrote (B b : Nat) (l : List UInt8) (w w' : World) : Prop where
 bld : Bld B b l w'
 bel : Below B w w'
 oth : Lib.OthersKept 5 (some b) w w'
theorem Wrote.trans {B b : Nat} {l l' : List UInt8} {w w1 w2 : World} (h : Wrote B b l w w1) (k : Wrote B b l' w1 w2) : Wrote B b l' w w2 := ⟨k.bld, h.bel.trans k.bel, h.oth.trans k.oth⟩
set_option maxHeartbeats 1000000 in
theorem text_any (B b : Nat) (l : List UInt8) (s : ByteArray) (w : World) (hw : writ s = true) (h : Bld B b l w) (hl : l.length + (quoteL s.data.toList).length ≤ 140737488355328) (hBw : B ≤ w.heap.size) :
   Calls Tryz.prog 49 #[.string s, .pointer (some ⟨b, 0, none⟩)] w fun e w' => e = .returned (.tuple #[]) ∧ Wrote B b (l ++ quoteL s.data.toList) w w' := by
 go_enter Tryz.func49, Tryz.ntmps49
 go_wp2_with fail
 refine (Quote_any s _ hw).mono ?_
 rintro e w1 ⟨rfl, hb1⟩
 have hs1 := hb1.size
 go_wp2_with fail
 refine (ws B b l ⟨(quoteL s.data.toList).toArray⟩ _ (h.keep hb1) (by rw [bytes_size]; exact hl) (by omega)).mono ?_
 rintro e w2 ⟨rfl, h2, hb2, hk2⟩
 go_wp2_with fail
 go_end0
 exact ⟨rfl, h2, (hb1.mono hBw).trans hb2, (kept_of hb1).trans hk2⟩
structure WCtx (B b bt bw : Nat) (w : World) : Prop where
 hb : B ≤ b
 text : w.heap[bt]? = some (.cells #[.func (.func 49) #[] #[.pointer (some ⟨b, 0, none⟩)]] 95 (0, 0))
 write : w.heap[bw]? = some (.cells #[.func (.func 52) #[] #[.pointer (some ⟨b, 0, none⟩), .pointer (some ⟨bt, 0, none⟩), .pointer (some ⟨bw, 0, none⟩)]] 96 (0, 0))
 ne1 : bt ≠ b
 ne2 : bw ≠ b
theorem WCtx.step {B b bt bw : Nat} {w w' : World} (h : WCtx B b bt bw w) (hk : Lib.OthersKept 5 (some b) w w') : WCtx B b bt bw w' :=
 ⟨h.hb, hk bt _ h.text (by simpa using h.ne1) (by intro c fz e; simp at e), hk bw _ h.write (by simpa using h.ne2) (by intro c fz e; simp at e), h.ne1, h.ne2⟩
theorem heap_new (w : World) (o : Obj) : (w.alloc o).heap[w.heap.size]? = some o := by
 show (w.heap.push o)[w.heap.size]? = _
 simp
theorem WCtx.alloc {B b bt bw : Nat} {w : World} (h : WCtx B b bt bw w) (o : Obj) : WCtx B b bt bw (w.alloc o) := h.step (kept_of ((Below.refl _ _).alloc (Nat.le_refl _) o))
theorem Wrote.start {B b : Nat} {l : List UInt8} {w : World} (h : Bld B b l w) (hB : B ≤ w.heap.size) (o : Obj) : Wrote B b l w (w.alloc o) := ⟨h.alloc o, (Below.refl _ _).alloc hB o, kept_of ((Below.refl _ _).alloc (Nat.le_refl _) o)⟩
theorem Wrote.drew {B b : Nat} {l : List UInt8} {w w' : World} (h : Wrote B b l w w') : Wrote B b l w w'.drew := ⟨h.bld.keep (Below.refl _ _).drew, h.bel.drew, h.oth.drew⟩
theorem textCell {B b bt bw : Nat} {w : World} (h : WCtx B b bt bw w) : w.cell? ⟨bt, 0, none⟩ = some (.func (.func 49) #[] #[.pointer (some ⟨b, 0, none⟩)]) := Lib.cell_of_heap h.text 0
theorem writeCell {B b bt bw : Nat} {w : World} (h : WCtx B b bt bw w) : w.cell? ⟨bw, 0, none⟩ = some (.func (.func 52) #[] #[.pointer (some ⟨b, 0, none⟩), .pointer (some ⟨bt, 0, none⟩), .pointer (some ⟨bw, 0, none⟩)]) := Lib.cell_of_heap h.write 0
theorem boxKept {b : Nat} {w w' : World} (hk : Lib.OthersKept 5 (some b) w w') {k : Nat} (hkb : k ≠ b) {cs : Array Value} (hh : w.heap[k]? = some (.cells cs 26 (0, 0))) : w'.heap[k]? = some (.cells cs 26 (0, 0)) :=
 hk k _ hh (by simpa using hkb) (by intro c fz e; simp at e)
set_option maxHeartbeats 4000000 in
theorem write_any (N : Nat) : ∀ (B b bt bw : Nat) (V : JV) (v : Value) (w0 w : World) (l : List UInt8), SizeOf.sizeOf V < N → ValAt w0 V v → Below w0.heap.size w0 w → w0.heap.size ≤ B → B ≤ w.heap.size → WCtx B b bt bw w → goodV V = true → Bld B b l w → l.length + (formV V).length ≤ 140737488355328 → TabEnv w0 →
   Calls Tryz.prog 52 #[v, .pointer (some ⟨b, 0, none⟩), .pointer (some ⟨bt, 0, none⟩), .pointer (some ⟨bw, 0, none⟩)] w fun e w' => e = .returned (.tuple #[]) ∧ Wrote B b (l ++ formV V) w w' := by
 induction N with
 | zero => intro B b bt bw V v w0 w l h; omega
 | succ N ih =>
   intro B b bt bw V v w0 w l hN hV hB hw hBw hc hg h hl henv
   have HI := Lib.hid ih
   clear ih
   obtain ⟨F, hF⟩ : ∃ F, formV V = F := ⟨_, rfl⟩
   rw [hF] at hl ⊢
   have HF := Lib.hid (hF.symm.trans (formV_eq V))
   clear hF
   have hp : properB V = true := by rw [goodV_eq, Bool.and_eq_true] at hg; exact hg.1
   obtain ⟨vn, vi, rfl, k0, k1, n0, n1, ht, hns, his⟩ := valAt_iff.1 hV
   obtain ⟨ai, icap, rfl, hil, hic⟩ := his.parts
   obtain ⟨an, ncap, rfl, hnl, hnm, hnc⟩ := hns.parts
   have HIC := Lib.hid hic
   have HNC := Lib.hid hnc
   have HNM := Lib.hid hnm
   clear hic hnc hnm his hns
   have HG := Lib.hid hg
   have HP := Lib.hid hp
   clear hg hp
   obtain ⟨ilen, hilen⟩ : ∃ n, V.items.length = n := ⟨_, rfl⟩
   obtain ⟨nlen, hnlen⟩ : ∃ n, V.names.length = n := ⟨_, rfl⟩
   rw [hilen] at hil hV ⊢
   rw [hnlen] at hnl hV ⊢
   have HL := Lib.hid hilen
   have HNL := Lib.hid hnlen
   clear hilen hnlen
   obtain ⟨box, hbox⟩ : ∃ o, o = Obj.cells #[.int .u8 V.k, .int .i64 V.n, .string V.t, .slice an nlen ncap, .slice ai ilen icap] 26 := ⟨_, rfl⟩
   have hS := Wrote.start h hBw box
   have hC1 := hc.alloc box
   have hlt := h.lt
   have hs1 : B ≤ (w.alloc box).heap.size := by simp; omega
   have hB1 : Below w0.heap.size w0 (w.alloc box) := hB.trans ((hS.bel).mono hw)
   have hbx := heap_new w box
   subst hbox
   by_cases h1 : V.k = 1
   · have e := HF.out
     rw [if_pos h1] at e
     have hb1 : (V.k == 1) = true := by rw [h1]; rfl
     clear h1 HF HI HIC HNC
     by_cases hn : V.n = 1
     · rw [if_pos hn] at e
       subst e
       have hbn : (V.n == 1) = true := by rw [hn]; rfl
       clear hn
       go_enter Tryz.func52, Tryz.ntmps52
       go_wp2_with fail
       refine (ws B b l ⟨#[116, 114, 117, 101]⟩ _ hS.bld hl hs1).mono ?_
       rintro e w2 ⟨rfl, h2, hb2, hk2⟩
       go_wp2_with fail
       go_end0
       exact ⟨rfl, h2, hS.bel.trans hb2, hS.oth.trans hk2⟩
     · rw [if_neg hn] at e
       subst e
       have hbn : (V.n == 1) = false := beq_eq_false_iff_ne.2 hn
       clear hn
       go_enter Tryz.func52, Tryz.ntmps52
       go_wp2_with fail
       refine (ws B b l ⟨#[102, 97, 108, 115, 101]⟩ _ hS.bld hl hs1).mono ?_
       rintro e w2 ⟨rfl, h2, hb2, hk2⟩
       go_wp2_with fail
       go_end0
       exact ⟨rfl, h2, hS.bel.trans hb2, hS.oth.trans hk2⟩
   have e1 : (V.k == 1) = false := beq_eq_false_iff_ne.2 h1
   by_cases h2 : V.k = 2
   · have e := HF.out
     rw [if_neg h1, if_pos h2] at e
     have hb2 : (V.k == 2) = true := by rw [h2]; rfl
     subst e
     clear h1 h2 HF HI HIC HNC
     go_enter Tryz.func52, Tryz.ntmps52
     go_wp2_with fail
     refine (Show_any V.n n0 n1 _ (henv.below hB1)).mono ?_
     rintro e w2 ⟨rfl, hb2⟩
     have hs2 := hb2.size
     go_wp2_with fail
     refine (ws B b l ⟨(Lib.itoa V.n).toArray⟩ _ (hS.bld.keep hb2) (by rw [bytes_size]; exact hl) (by omega)).mono ?_
     rintro e w3 ⟨rfl, h3, hb3, hk3⟩
     go_wp2_with fail
     go_end0
     exact ⟨rfl, h3, (hS.bel.trans (hb2.mono hs1)).trans hb3, (hS.oth.trans (kept_of hb2)).trans hk3⟩
   have e2 : (V.k == 2) = false := beq_eq_false_iff_ne.2 h2
   by_cases h3 : V.k = 3
   · have e := HF.out
     rw [if_neg h1, if_neg h2, if_pos h3] at e
     have hb3 : (V.k == 3) = true := by rw [h3]; rfl
     have hwr := proper_text HP.out h3
     subst e
     have hct := textCell hC1
     clear h1 h2 h3 HF HI HIC HNC
     go_enter Tryz.func52, Tryz.ntmps52
     go_wp2_with fail
     refine (text_any B b l V.t _ hwr hS.bld hl hs1).mono ?_
     rintro e w2 ⟨rfl, hW2⟩
     go_wp2_with fail
     go_end0
     exact ⟨rfl, hS.trans hW2⟩
   have e3 : (V.k == 3) = false := beq_eq_false_iff_ne.2 h3
   by_cases h4 : V.k = 4
   · have e := HF.out
     rw [if_neg h1, if_neg h2, if_neg h3, if_pos h4] at e
     have hb4 : (V.k == 4) = true := by rw [h4]; rfl
     have hgs : goodVs V.items = true := by
       have := HG.out
       rw [goodV_eq, if_pos (Or.inl h4), Bool.and_eq_true] at this
       exact this.2
     obtain ⟨fs, hfs⟩ : ∃ fs, formVs V.items = fs := ⟨_, rfl⟩
     rw [hfs] at e
     have hfx : ∀ j x, V.items[j]? = some x → fs[j]? = some (formV x) := fun j x hx => by rw [← hfs, formVs_map, List.getElem?_map, hx]; rfl
     have hfl : fs.length = ilen := by rw [← hfs, formVs_map, List.length_map]; exact HL.out
     have hFl : F.length = (joinC fs).length + 2 := by rw [e]; simp
     have HFX := Lib.hid hfx
     have HFL := Lib.hid hfl
     have HFe := Lib.hid e
     have HGS := Lib.hid hgs
     rw [hFl] at hl
     clear h1 h2 h3 h4 HF HNC hfs hfx hfl hgs e hFl
     go_enter Tryz.func52, Tryz.ntmps52
     go_wp2_with fail
     refine (wb B b l 91 91 rfl _ hS.bld (by omega) hs1).mono ?_
     rintro e w2 ⟨rfl, h2, hb2, hk2⟩
     have hbx2 := boxKept hk2 (by omega) hbx
     have hc4 : w2.cell? ⟨w.heap.size, 4, none⟩ = some (.slice ai ilen icap) := by rw [Lib.cell_of_heap hbx2]; rfl
     have hW2 : Wrote B b (l ++ [91]) w w2 := hS.trans ⟨h2, hb2, hk2⟩
     clear h2 hb2 hk2 hbx2
     go_wp2_with fail
     go_loopw [36] (fun i wr => ∃ j : Nat, j ≤ ilen ∧ i = .int .i64 j ∧ Wrote B b (l ++ 91 :: joinC (fs.take j)) w wr) (fun i _ => ilen - (intOf i).toNat)
     case atStart => exact ⟨0, by omega, rfl, hW2⟩
     case round =>
       obtain ⟨j, hj, rfl, hWr⟩ := hrel
       have hszr := hWr.bel.size
       have hBr : Below w0.heap.size w0 wr := hB.trans (hWr.bel.mono hw)
       have hCr := hc.step hWr.oth
       by_cases hjl : j < ilen
       · obtain ⟨x, hx⟩ : ∃ x, V.items[j]? = some x := ⟨_, List.getElem?_eq_getElem (by rw [HL.out]; exact hjl)⟩
         obtain ⟨ib, io, xn, xi, rfl, c0, c1, c2, c3, c4, a0, a1, a2, a3, a4, a5, a6⟩ := HIC.out j x hx
         have hvx : ValAt w0 x (.agg #[.int .u8 x.k, .int .i64 x.n, .string x.t, xn, xi]) := valAt_iff.2 ⟨_, _, rfl, a0, a1, a2, a3, a4, a5, a6⟩
         have hsx : SizeOf.sizeOf x < N := by
           have := JV.size_item (List.mem_of_getElem? hx)
           omega
         have hgx := goodVs_mem HGS.out x (List.mem_of_getElem? hx)
         have hfj := HFX.out j x hx
         have hst := joinC_step hfj
         have hle := joinC_take fs (j + 1)
         obtain ⟨xan, xncap, rfl, -, -, -⟩ := a5.parts
         obtain ⟨xai, xicap, rfl, -, -⟩ := a6.parts
         have e0 := cell_keep hBr c0
         have e1 := cell_keep hBr c1
         have e2 := cell_keep hBr c2
         have e3 := cell_keep hBr c3
         have e4 := cell_keep hBr c4
         obtain ⟨xbox, hxbox⟩ : ∃ o, o = Obj.cells #[.int .u8 x.k, .int .i64 x.n, .string x.t, .slice xan x.names.length xncap, .slice xai x.items.length xicap] 26 := ⟨_, rfl⟩
         have hltr := hWr.bld.lt
         have hX := Wrote.start hWr.bld (by omega) xbox
         have hCx := hCr.alloc xbox
         have hBx : Below w0.heap.size w0 (wr.alloc xbox) := hBr.trans (hX.bel.mono hw)
         have hsx1 : B ≤ (wr.alloc xbox).heap.size := by simp; omega
         have hxn := heap_new wr xbox
         subst hxbox
         have HST := Lib.hid hst
         clear hst hfj hx c0 c1 c2 c3 c4 a0 a1 a2 a3 a4 a5 a6
         by_cases hj0 : j = 0
         · have hjn : ¬ 0 < j := by omega
           have hcw := writeCell hCx
           have HS2 : Hid (joinC (fs.take (j + 1)) = formV x) := by show _ = _; rw [HST.out, if_pos hj0]
           have HS3 : Hid (joinC (fs.take j) = []) := by show _ = _; rw [hj0]; rfl
           have hlx : (l ++ 91 :: joinC (fs.take j)).length + (formV x).length ≤ 140737488355328 := by
             have e := congrArg List.length HS2.out
             rw [HS3.out]
             simp only [List.length_append, List.length_cons, List.length_nil]
             omega
           clear hj0 HST
           go_wp2_with fail
           refine (HI.out B b bt bw x _ w0 _ _ hsx hvx hBx hw hsx1 hCx hgx hX.bld hlx henv).mono ?_
           rintro e w6 ⟨rfl, hW6⟩
           have hW7 : Wrote B b (l ++ 91 :: joinC (fs.take (j + 1))) w w6 := by
             have := (hWr.trans hX).trans hW6
             rw [HS2.out]
             rw [HS3.out] at this
             simpa using this
           go_wp2_with fail
           refine ⟨?_, by simp [intOf]; omega⟩
           first | exact ⟨j + 1, by omega, by go_num, hW7⟩ | ((repeat apply Exists.intro); exact ⟨⟨j + 1, by omega, by go_num, hW7⟩, rfl⟩)
         · have hjp : 0 < j := by omega
           have HS2 : Hid (joinC (fs.take (j + 1)) = joinC (fs.take j) ++ 44 :: formV x) := by show _ = _; rw [HST.out, if_neg hj0]
           have hlx : (l ++ 91 :: joinC (fs.take j)).length + 1 + (formV x).length ≤ 140737488355328 := by
             have e := congrArg List.length HS2.out
             simp only [List.length_append, List.length_cons] at e ⊢
             omega
           clear hj0 HST
           go_wp2_with fail
           refine (wb B b _ 44 44 rfl _ hX.bld (by omega) hsx1).mono ?_
           rintro e w5 ⟨rfl, h5, hb5, hk5⟩
           have hW5 : Wrote B b (l ++ 91 :: joinC (fs.take j) ++ [44]) w w5 := (hWr.trans hX).trans ⟨h5, hb5, hk5⟩
           have hC5 := hCx.step hk5
           have hcw := writeCell hC5
           have hx5 := boxKept hk5 (by omega) hxn
           have f0 : w5.cell? ⟨wr.heap.size, 0, none⟩ = some (.int .u8 x.k) := by rw [Lib.cell_of_heap hx5]; rfl
           have f1 : w5.cell? ⟨wr.heap.size, 1, none⟩ = some (.int .i64 x.n) := by rw [Lib.cell_of_heap hx5]; rfl
           have f2 : w5.cell? ⟨wr.heap.size, 2, none⟩ = some (.string x.t) := by rw [Lib.cell_of_heap hx5]; rfl
           have f3 : w5.cell? ⟨wr.heap.size, 3, none⟩ = some (.slice xan x.names.length xncap) := by rw [Lib.cell_of_heap hx5]; rfl
           have f4 : w5.cell? ⟨wr.heap.size, 4, none⟩ = some (.slice xai x.items.length xicap) := by rw [Lib.cell_of_heap hx5]; rfl
           have hs5 := hb5.size
           clear hx5 h5
           go_wp2_with fail
           refine (HI.out B b bt bw x _ w0 _ _ hsx hvx (hBx.trans (hb5.mono hw)) hw (by omega) hC5 hgx hW5.bld (by rw [List.length_append, List.length_singleton]; exact hlx) henv).mono ?_
           rintro e w6 ⟨rfl, hW6⟩
           have hW7 : Wrote B b (l ++ 91 :: joinC (fs.take (j + 1))) w w6 := by
             have := hW5.trans hW6
             rw [HS2.out]
             simpa using this
           go_wp2_with fail
           refine ⟨?_, by simp [intOf]; omega⟩
           first | exact ⟨j + 1, by omega, by go_num, hW7⟩ | ((repeat apply Exists.intro); exact ⟨⟨j + 1, by omega, by go_num, hW7⟩, rfl⟩)
       · rw [List.take_of_length_le (by rw [HFL.out]; omega)] at hWr
         go_wp2_with fail
         refine (wb B b _ 93 93 rfl _ hWr.bld (by simp only [List.length_append, List.length_cons]; omega) (by omega)).mono ?_
         rintro e w5 ⟨rfl, h5, hb5, hk5⟩
         have hW5 : Wrote B b (l ++ F) w w5 := by
           have := hWr.trans ⟨h5, hb5, hk5⟩
           rw [HFe.out]
           simpa using this
         go_wp2_with fail
         go_end0
         exact ⟨rfl, hW5⟩
   have e4 : (V.k == 4) = false := beq_eq_false_iff_ne.2 h4
   by_cases h5 : V.k = 5
   · have e := HF.out
     rw [if_neg h1, if_neg h2, if_neg h3, if_neg h4, if_pos h5] at e
     have hb5 : (V.k == 5) = true := by rw [h5]; rfl
     have hgs : goodVs V.items = true := by
       have := HG.out
       rw [goodV_eq, if_pos (Or.inr h5), Bool.and_eq_true] at this
       exact this.2
     obtain ⟨hnn, -, hwn⟩ := proper_obj HP.out h5
     have hni : nlen = ilen := by rw [← HNL.out, ← HL.out]; exact hnn
     obtain ⟨fs, hfs⟩ : ∃ fs, ((V.names.zip (formVs V.items)).map fun p => quoteL p.1.data.toList ++ 58 :: p.2) = fs := ⟨_, rfl⟩
     rw [hfs] at e
     have hfx : ∀ (j : Nat) (x : JV) (nm : ByteArray), V.items[j]? = some x → V.names[j]? = some nm → fs[j]? = some (quoteL nm.data.toList ++ 58 :: formV x) := fun j x nm hx hn => by
       rw [← hfs, List.getElem?_map, (List.getElem?_zip_eq_some (z := (nm, formV x))).2 ⟨hn, by rw [formVs_map, List.getElem?_map, hx]; rfl⟩]; rfl
     have hfl : fs.length = ilen := by rw [← hfs, List.length_map, List.length_zip, formVs_map, List.length_map, HL.out, HNL.out, hni, Nat.min_self]
     have hFl : F.length = (joinC fs).length + 2 := by rw [e]; simp
     have hwm : ∀ s ∈ V.names, writ s = true := fun s hs => List.all_eq_true.1 hwn s hs
     have HFX := Lib.hid hfx
     have HFL := Lib.hid hfl
     have HFe := Lib.hid e
     have HGS := Lib.hid hgs
     have HWM := Lib.hid hwm
     have HNI := Lib.hid hni
     rw [hFl] at hl
     have hil2 : ilen ≤ nlen := by omega
     clear h1 h2 h3 h4 h5 HF hfs hfx hfl hgs e hFl hwm hwn hnn hni
     go_enter Tryz.func52, Tryz.ntmps52
     go_wp2_with fail
     refine (wb B b l 123 123 rfl _ hS.bld (by omega) hs1).mono ?_
     rintro e w2 ⟨rfl, h2, hb2, hk2⟩
     have hbx2 := boxKept hk2 (by omega) hbx
     have hc4 : w2.cell? ⟨w.heap.size, 4, none⟩ = some (.slice ai ilen icap) := by rw [Lib.cell_of_heap hbx2]; rfl
     have hW2 : Wrote B b (l ++ [123]) w w2 := hS.trans ⟨h2, hb2, hk2⟩
     have HBX2 := Lib.hid hbx2
     clear h2 hb2 hk2 hbx2 hbx
     go_wp2_with fail
     go_loopw [55] (fun i wr => ∃ j : Nat, j ≤ ilen ∧ i = .int .i64 j ∧ Wrote B b (l ++ 123 :: joinC (fs.take j)) w wr ∧ Hid (wr.heap[w.heap.size]? = some (.cells #[.int .u8 V.k, .int .i64 V.n, .string V.t, .slice an nlen ncap, .slice ai ilen icap] 26 (0, 0)))) (fun i _ => ilen - (intOf i).toNat)
     case atStart => exact ⟨0, by omega, rfl, hW2, HBX2⟩
     case round =>
       obtain ⟨j, hj, rfl, hWr, HBX⟩ := hrel
       have hszr := hWr.bel.size
       have hwlt : w.heap.size < wr.heap.size := (Array.getElem?_eq_some_iff.1 HBX.out).1
       have hBr : Below w0.heap.size w0 wr := hB.trans (hWr.bel.mono hw)
       have hCr := hc.step hWr.oth
       by_cases hjl : j < ilen
       · obtain ⟨x, hx⟩ : ∃ x, V.items[j]? = some x := ⟨_, List.getElem?_eq_getElem (by rw [HL.out]; exact hjl)⟩
         obtain ⟨nm, hnm⟩ : ∃ s, V.names[j]? = some s := ⟨_, List.getElem?_eq_getElem (by rw [HNL.out]; omega)⟩
         obtain ⟨nb, no_, rfl, cn⟩ := HNC.out j nm hnm
         obtain ⟨ib, io, xn, xi, rfl, c0, c1, c2, c3, c4, a0, a1, a2, a3, a4, a5, a6⟩ := HIC.out j x hx
         have hvx : ValAt w0 x (.agg #[.int .u8 x.k, .int .i64 x.n, .string x.t, xn, xi]) := valAt_iff.2 ⟨_, _, rfl, a0, a1, a2, a3, a4, a5, a6⟩
         have hsx : SizeOf.sizeOf x < N := by
           have := JV.size_item (List.mem_of_getElem? hx)
           omega
         have hgx := goodVs_mem HGS.out x (List.mem_of_getElem? hx)
         have hwn := HWM.out nm (List.mem_of_getElem? hnm)
         have hfj := HFX.out j x nm hx hnm
         have hst := joinC_step hfj
         have hle := joinC_take fs (j + 1)
         obtain ⟨xan, xncap, rfl, -, -, -⟩ := a5.parts
         obtain ⟨xai, xicap, rfl, -, -⟩ := a6.parts
         have e0 := cell_keep hBr c0
         have e1 := cell_keep hBr c1
         have e2 := cell_keep hBr c2
         have e3 := cell_keep hBr c3
         have e4 := cell_keep hBr c4
         obtain ⟨xbox, hxbox⟩ : ∃ o, o = Obj.cells #[.int .u8 x.k, .int .i64 x.n, .string x.t, .slice xan x.names.length xncap, .slice xai x.items.length xicap] 26 := ⟨_, rfl⟩
         have hltr := hWr.bld.lt
         have hltw : b < w.heap.size := hlt
         have hX := Wrote.start hWr.bld (by omega) xbox
         have hCx := hCr.alloc xbox
         have hBx : Below w0.heap.size w0 (wr.alloc xbox) := hBr.trans (hX.bel.mono hw)
         have hsx1 : B ≤ (wr.alloc xbox).heap.size := by simp; omega
         have hxn := heap_new wr xbox
         have hbxx := boxKept hX.oth (by omega) HBX.out
         have hcnx := cell_keep hBx cn
         subst hxbox
         have HST := Lib.hid hst
         have HNLT : nlen ≤ 9223372036854775807 := hnl
         have hjn2 : j < nlen := by omega
         have hji0 : (0 : Int) ≤ (j : Int) := by omega
         have hji1 : (j : Int) < (nlen : Int) := by omega
         clear hst hfj hx hnm c0 c1 c2 c3 c4 a0 a1 a2 a3 a4 a5 a6
         by_cases hj0 : j = 0
         · have hjn : ¬ 0 < j := by omega
           have hct := textCell hCx
           have hn3 : (wr.alloc (.cells #[.int .u8 x.k, .int .i64 x.n, .string x.t, .slice xan x.names.length xncap, .slice xai x.items.length xicap] 26)).cell? ⟨w.heap.size, 3, none⟩ = some (.slice (some ⟨nb, no_, none⟩) nlen ncap) := by rw [Lib.cell_of_heap hbxx]; rfl
           have HS2 : Hid (joinC (fs.take (j + 1)) = quoteL nm.data.toList ++ 58 :: formV x) := by show _ = _; rw [HST.out, if_pos hj0]
           have HS3 : Hid (joinC (fs.take j) = []) := by show _ = _; rw [hj0]; rfl
           clear hj0 HST
           go_wp2_with fail
           have hWD := hWr.trans hX
           have hCD := hCx
           have hxD := hxn
           have hbxD := hbxx
           have hszD : B ≤ ((wr.alloc (.cells #[.int .u8 x.k, .int .i64 x.n, .string x.t, .slice xan x.names.length xncap, .slice xai x.items.length xicap] 26)).drew).heap.size := hsx1
           have hlq : (l ++ 123 :: joinC (fs.take j)).length + (quoteL nm.data.toList).length ≤ 140737488355328 := by
             have e := congrArg List.length HS2.out
             rw [HS3.out]
             simp only [List.length_append, List.length_cons, List.length_nil] at e ⊢
             omega
           clear hX hCx hxn hbxx
           have hlx : (l ++ 123 :: joinC (fs.take j)).length + (quoteL nm.data.toList).length + 1 + (formV x).length ≤ 140737488355328 := by
             have e := congrArg List.length HS2.out
             rw [HS3.out]
             simp only [List.length_append, List.length_cons, List.length_nil] at e ⊢
             omega
           go_region_with (first | (go_at_call 49; refine (text_any B b _ nm _ hwn hWD.drew.bld hlq hszD).mono ?_; rintro e w7 ⟨rfl, hT⟩))
           all_goals
             have hW7 := hWD.drew.trans hT
             have hC7 := hCD.step (hT.oth)
             have hx7 := boxKept hT.oth (by omega) hxD
             have hbx7 := boxKept hT.oth (by omega) hbxD
             have hs7 := hT.bel.size
             have hs7b : B ≤ w7.heap.size := Nat.le_trans hszD hs7
             clear hT
             go_wp2_with fail
             go_simp
             refine (wb B b _ 58 58 rfl _ hW7.bld (by rw [List.length_append]; omega) hs7b).mono ?_
             rintro e w8 ⟨rfl, h8, hb8, hk8⟩
             have hW8 := hW7.trans ⟨h8, hb8, hk8⟩
             have hC8 := hC7.step hk8
             have hx8 := boxKept hk8 (by omega) hx7
             have hbx8 := boxKept hk8 (by omega) hbx7
             have hs8 := hb8.size
             have hcw := writeCell hC8
             have f0 : w8.cell? ⟨wr.heap.size, 0, none⟩ = some (.int .u8 x.k) := by rw [Lib.cell_of_heap hx8]; rfl
             have f1 : w8.cell? ⟨wr.heap.size, 1, none⟩ = some (.int .i64 x.n) := by rw [Lib.cell_of_heap hx8]; rfl
             have f2 : w8.cell? ⟨wr.heap.size, 2, none⟩ = some (.string x.t) := by rw [Lib.cell_of_heap hx8]; rfl
             have f3 : w8.cell? ⟨wr.heap.size, 3, none⟩ = some (.slice xan x.names.length xncap) := by rw [Lib.cell_of_heap hx8]; rfl
             have f4 : w8.cell? ⟨wr.heap.size, 4, none⟩ = some (.slice xai x.items.length xicap) := by rw [Lib.cell_of_heap hx8]; rfl
             have hB8 : Below w0.heap.size w0 w8 := hB.trans (hW8.bel.mono hw)
             have HBX8 := Lib.hid hbx8
             clear h8 hb8 hk8 hx8 hx7 hbx7 hbx8 hW7 hC7
             go_wp2_with fail
             refine (HI.out B b bt bw x _ w0 _ _ hsx hvx hB8 hw (by omega) hC8 hgx hW8.bld (by rw [List.length_append, List.length_append, List.length_singleton]; exact hlx) henv).mono ?_
             rintro e w9 ⟨rfl, hW9⟩
             have hbx9 := boxKept hW9.oth (by omega) HBX8.out
             have hW10 : Wrote B b (l ++ 123 :: joinC (fs.take (j + 1))) w w9 := by
               have := hW8.trans hW9
               rw [HS2.out]
               rw [HS3.out] at this
               simpa using this
             go_wp2_with fail
             refine ⟨?_, by simp [intOf]; omega⟩
             first | exact ⟨j + 1, by omega, by go_num, hW10, hbx9⟩ | ((repeat apply Exists.intro); exact ⟨⟨j + 1, by omega, by go_num, hW10, hbx9⟩, rfl⟩)
         · have hjp : 0 < j := by omega
           have HS2 : Hid (joinC (fs.take (j + 1)) = joinC (fs.take j) ++ 44 :: (quoteL nm.data.toList ++ 58 :: formV x)) := by show _ = _; rw [HST.out, if_neg hj0]
           have hlx : (l ++ 123 :: joinC (fs.take j) ++ [44]).length + (quoteL nm.data.toList).length + 1 + (formV x).length ≤ 140737488355328 := by
             have e := congrArg List.length HS2.out
             simp only [List.length_append, List.length_cons, List.length_nil] at e ⊢
             omega
           have hlq : (l ++ 123 :: joinC (fs.take j) ++ [44]).length + (quoteL nm.data.toList).length ≤ 140737488355328 := by omega
           have hl44 : (l ++ 123 :: joinC (fs.take j)).length < 140737488355328 := by
             have e2 : (l ++ 123 :: joinC (fs.take j) ++ [44]).length = (l ++ 123 :: joinC (fs.take j)).length + 1 := by rw [List.length_append]; rfl
             omega
           clear hj0 HST
           go_wp2_with fail
           refine (wb B b _ 44 44 rfl _ hX.bld hl44 hsx1).mono ?_
           rintro e w5 ⟨rfl, h5, hb5, hk5⟩
           have hWD : Wrote B b (l ++ 123 :: joinC (fs.take j) ++ [44]) w w5 := (hWr.trans hX).trans ⟨h5, hb5, hk5⟩
           have hCD := hCx.step hk5
           have hxD := boxKept hk5 (by omega) hxn
           have hbxD := boxKept hk5 (by omega) hbxx
           have hct := textCell hCD
           have hn3 : w5.cell? ⟨w.heap.size, 3, none⟩ = some (.slice (some ⟨nb, no_, none⟩) nlen ncap) := by rw [Lib.cell_of_heap hbxD]; rfl
           have hs5 := hb5.size
           have hszD : B ≤ w5.drew.heap.size := Nat.le_trans hsx1 hs5
           have hcn5 : w5.cell? ⟨nb, no_ + j, none⟩ = some (.string nm) := cell_keep (hBx.trans (hb5.mono hw)) cn
           have hszw : wr.heap.size < w5.heap.size := (Array.getElem?_eq_some_iff.1 hxD).1
           clear h5 hb5 hk5 hX hCx hxn hbxx hcnx
           go_wp2_with fail
           go_region_with (first | (go_at_call 49; refine (text_any B b _ nm _ hwn hWD.drew.bld hlq hszD).mono ?_; rintro e w7 ⟨rfl, hT⟩))
           all_goals
             have hW7 := hWD.drew.trans hT
             have hC7 := hCD.step (hT.oth)
             have hx7 := boxKept hT.oth (by omega) hxD
             have hbx7 := boxKept hT.oth (by omega) hbxD
             have hs7 := hT.bel.size
             have hs7b : B ≤ w7.heap.size := Nat.le_trans hszD hs7
             clear hT
             go_wp2_with fail
             go_simp
             refine (wb B b _ 58 58 rfl _ hW7.bld (by rw [List.length_append]; omega) hs7b).mono ?_
             rintro e w8 ⟨rfl, h8, hb8, hk8⟩
             have hW8 := hW7.trans ⟨h8, hb8, hk8⟩
             have hC8 := hC7.step hk8
             have hx8 := boxKept hk8 (by omega) hx7
             have hbx8 := boxKept hk8 (by omega) hbx7
             have hs8 := hb8.size
             have hcw := writeCell hC8
             have f0 : w8.cell? ⟨wr.heap.size, 0, none⟩ = some (.int .u8 x.k) := by rw [Lib.cell_of_heap hx8]; rfl
             have f1 : w8.cell? ⟨wr.heap.size, 1, none⟩ = some (.int .i64 x.n) := by rw [Lib.cell_of_heap hx8]; rfl
             have f2 : w8.cell? ⟨wr.heap.size, 2, none⟩ = some (.string x.t) := by rw [Lib.cell_of_heap hx8]; rfl
             have f3 : w8.cell? ⟨wr.heap.size, 3, none⟩ = some (.slice xan x.names.length xncap) := by rw [Lib.cell_of_heap hx8]; rfl
             have f4 : w8.cell? ⟨wr.heap.size, 4, none⟩ = some (.slice xai x.items.length xicap) := by rw [Lib.cell_of_heap hx8]; rfl
             have hB8 : Below w0.heap.size w0 w8 := hB.trans (hW8.bel.mono hw)
             have HBX8 := Lib.hid hbx8
             clear h8 hb8 hk8 hx8 hx7 hbx7 hbx8 hW7 hC7
             go_wp2_with fail
             refine (HI.out B b bt bw x _ w0 _ _ hsx hvx hB8 hw (by omega) hC8 hgx hW8.bld (by rw [List.length_append, List.length_append, List.length_singleton]; exact hlx) henv).mono ?_
             rintro e w9 ⟨rfl, hW9⟩
             have hbx9 := boxKept hW9.oth (by omega) HBX8.out
             have hW10 : Wrote B b (l ++ 123 :: joinC (fs.take (j + 1))) w w9 := by
               have := hW8.trans hW9
               rw [HS2.out]
               simpa using this
             go_wp2_with fail
             refine ⟨?_, by simp [intOf]; omega⟩
             first | exact ⟨j + 1, by omega, by go_num, hW10, hbx9⟩ | ((repeat apply Exists.intro); exact ⟨⟨j + 1, by omega, by go_num, hW10, hbx9⟩, rfl⟩)
       · rw [List.take_of_length_le (by rw [HFL.out]; omega)] at hWr
         go_wp2_with fail
         refine (wb B b _ 125 125 rfl _ hWr.bld (by simp only [List.length_append, List.length_cons]; omega) (by omega)).mono ?_
         rintro e w5 ⟨rfl, h5, hb5, hk5⟩
         have hW5 : Wrote B b (l ++ F) w w5 := by
           have := hWr.trans ⟨h5, hb5, hk5⟩
           rw [HFe.out]
           simpa using this
         go_wp2_with fail
         go_end0
         exact ⟨rfl, hW5⟩
   · have e := HF.out
     rw [if_neg h1, if_neg h2, if_neg h3, if_neg h4, if_neg h5] at e
     have e5 : (V.k == 5) = false := beq_eq_false_iff_ne.2 h5
     subst e
     clear h1 h2 h3 h4 h5 HF HI HIC HNC
     go_enter Tryz.func52, Tryz.ntmps52
     go_wp2_with fail
     go_end0
     rw [List.append_nil]
     exact ⟨rfl, hS⟩
end Go.Proofs.YtmggmpigpiaagaaGreatDoor
