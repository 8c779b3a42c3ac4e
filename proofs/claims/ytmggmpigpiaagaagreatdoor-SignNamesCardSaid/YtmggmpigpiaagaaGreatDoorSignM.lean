/-
  sign.object, May, Show, Signed.
  sign.May, Show, Signed.
-/
import Derived.Test.YtmggmpigpiaagaaGreatDoorSignX
import Derived.Test.YtmggmpigpiaagaaGreatDoorCanonLaw
import Derived.Test.YtmggmpigpiaagaaGreatDoorValA
import Derived.Deep.RegionHeld3
import Derived.Test.YtmggmpigpiaagaaGreatDoorSignD
import Derived.Test.YtmggmpigpiaagaaGreatDoorWkIns
import Derived.BigQuiet
import Derived.Deep.RegionHeldLaw
import Derived.Test.YtmggmpigpiaagaaGreatDoorSlots
namespace Go.Proofs.YtmggmpigpiaagaaGreatDoor
section
set_option maxRecDepth 100000
open Go.RowKit
def textV (s : ByteArray) : JV := .mk 3 0 s [] []
def sgV (s : SigP) : JV := .mk 5 0 ⟨#[]⟩ [tKey, tSig] [textV s.1, textV s.2]
def envO (l : List SigP) (X : JV) : JV := .mk 5 0 ⟨#[]⟩ [tSigs, tSigned] [.mk 4 0 ⟨#[]⟩ [] (l.map sgV), X]
set_option maxHeartbeats 2000000 in
theorem textOf_any (s : ByteArray) (w : World) :
   Calls Tryz.prog 45 #[.string s] w fun e w' => e = .returned (.agg #[.int .u8 3, .int .i64 0, .string s, .slice none 0 0, .slice none 0 0]) ∧ Below w.heap.size w w' := by
 have HB : Hid (∀ cs, Below w.heap.size w (w.alloc (.cells cs 26))) := fun cs => bel_alloc (Below.refl _ _) _
 obtain ⟨q0, q1, q2, q3, q4, -⟩ := b5 (blkAt_new w #[.int .u8 3, .int .i64 0, .string s, .slice none 0 0, .slice none 0 0] 26)
 go_enter Tryz.func45, Tryz.ntmps45
 go_wp2_with fail
 exact bodyPost_ret (v := .agg #[.int .u8 3, .int .i64 0, .string s, .slice none 0 0, .slice none 0 0]) (by simp [results, Tryz.results45, go_sem, q0, q1, q2, q3, q4]) rfl ⟨rfl, HB.out _⟩
theorem sgV_new {B : Nat} {w : World} {A I : Nat} {s : SigP} (h1 : s.1.size ≤ maxLen) (h2 : s.2.size ≤ maxLen) (hA : BlkAt w A 9 #[.string tKey, .string tSig]) (hI : BlkAt w I 26 #[.int .u8 3, .int .i64 0, .string s.1, .slice none 0 0, .slice none 0 0, .int .u8 3, .int .i64 0, .string s.2, .slice none 0 0, .slice none 0 0]) (hAl : B ≤ A) (hIl : B ≤ I) :
   NewV B w (sgV s) (VC.val ⟨5, 0, ⟨#[]⟩, some ⟨A, 0, none⟩, 2, 2, some ⟨I, 0, none⟩, 2, 2⟩) := by
 have hcell : ∀ {b : Nat} {T : TypeId} {cs : Array Value} (_ : BlkAt w b T cs) (_ : B ≤ b) (i : Nat) (v : Value), cs[i]? = some v → (hidden (offB B none) w).cell? ⟨b, i, none⟩ = some v := fun hb hsb i v hv => (hidden_cell _ w _ v).2 ⟨offB_none.2 hsb, ⟨_, _, hb⟩, by rw [hb.cell i]; exact hv⟩
 refine valAt_lit (by rfl) (strsAt_lit (by rfl) ⟨hcell hA hAl 0 _ rfl, hcell hA hAl 1 _ rfl, trivial⟩) (itemsAt_lit (by rfl) ?_)
 refine rowAt_cons (valAt_leaf _ 3 0 s.1 (by decide) (by decide) (by decide) (by decide) h1) (hcell hI hIl 0 _ rfl) (hcell hI hIl 1 _ rfl) (hcell hI hIl 2 _ rfl) (hcell hI hIl 3 _ rfl) (hcell hI hIl 4 _ rfl) ?_
 exact rowAt_cons (valAt_leaf _ 3 0 s.2 (by decide) (by decide) (by decide) (by decide) h2) (hcell hI hIl 5 _ rfl) (hcell hI hIl 6 _ rfl) (hcell hI hIl 7 _ rfl) (hcell hI hIl 8 _ rfl) (hcell hI hIl 9 _ rfl) (rowAt_nil _ _ _)
theorem item_done {w1 wp w6 : World} {H0 A I j ic gg cp : Nat} {ia : Option Addr} {xs : List XI} {s : SigP} (hI1 : ItemsOwn w1 H0 (.slice ia j ic) xs) (hxs : xs.length = j) (hb : Below w1.heap.size w1 wp) (hH : H0 ≤ w1.heap.size) (hgrow : wp.grownBy w6 (Value.slice ia j ic).ownBlock) (hat : (Value.slice ia j ic).ownBlock = some gg ∨ gg = wp.heap.size)
   (hown6 : w6.ownsRow H0 26 5 (.slice (some ⟨gg, 0, none⟩) (j + 1) cp) (j + 1) (xiCells xs ++ #[.int .u8 5, .int .i64 0, .string ⟨#[]⟩, .slice (some ⟨A, 0, none⟩) 2 2, .slice (some ⟨I, 0, none⟩) 2 2].toList))
   (h1 : s.1.size ≤ maxLen) (h2 : s.2.size ≤ maxLen) (hA : BlkAt wp A 9 #[.string tKey, .string tSig]) (hI : BlkAt wp I 26 #[.int .u8 3, .int .i64 0, .string s.1, .slice none 0 0, .slice none 0 0, .int .u8 3, .int .i64 0, .string s.2, .slice none 0 0, .slice none 0 0]) (hAl : w1.heap.size ≤ A) (hIl : w1.heap.size ≤ I) :
   ItemsOwn w6 H0 (.slice (some ⟨gg, 0, none⟩) (j + 1) cp) (xs ++ [(⟨5, 0, ⟨#[]⟩, some ⟨A, 0, none⟩, 2, 2, some ⟨I, 0, none⟩, 2, 2⟩, sgV s)]) :=
 ItemsOwn.snoc hI1 (sgV_new h1 h2 hA hI hAl hIl) hH hb.size (hat.elim (fun e => Or.inl e.symm) (fun e => Or.inr ⟨gg, rfl, by omega⟩)) (by rw [hxs]; exact hown6) (fun k hk _ hne => hgrow.block k hk (fun e => hne e.symm)) (fun k hk _ => hb.block k hk)
theorem obj_round {w W w1 wp w6 : World} {A I j ic gg cp : Nat} {ia : Option Addr} {xs : List XI} {s : SigP} (hI1 : ItemsOwn w1 W.heap.size (.slice ia j ic) xs) (hxs : xs.length = j) (hb : Below w1.heap.size w1 wp) (hsz1 : W.heap.size ≤ w1.heap.size) (hgrow : wp.grownBy w6 (Value.slice ia j ic).ownBlock) (hat : (Value.slice ia j ic).ownBlock = some gg ∨ gg = wp.heap.size)
   (hown6 : w6.ownsRow W.heap.size 26 5 (.slice (some ⟨gg, 0, none⟩) (j + 1) cp) (j + 1) (xiCells xs ++ #[.int .u8 5, .int .i64 0, .string ⟨#[]⟩, .slice (some ⟨A, 0, none⟩) 2 2, .slice (some ⟨I, 0, none⟩) 2 2].toList))
   (hzs : s.1.size ≤ maxLen ∧ s.2.size ≤ maxLen) (hA : BlkAt wp A 9 #[.string tKey, .string tSig]) (hI : BlkAt wp I 26 #[.int .u8 3, .int .i64 0, .string s.1, .slice none 0 0, .slice none 0 0, .int .u8 3, .int .i64 0, .string s.2, .slice none 0 0, .slice none 0 0]) (hAl : w1.heap.size ≤ A) (hIl : w1.heap.size ≤ I)
   (HC1 : BlkAt w1 (w.heap.size + 2) 26 #[.int .u8 4, .int .i64 0, .string ⟨#[]⟩, .slice none 0 0, .slice ia j ic]) (HK1 : ∀ k, k < W.heap.size → k ≠ w.heap.size + 2 → w1.heap[k]? = W.heap[k]?) (HB1 : Below w.heap.size w w1) (HBW : Below w.heap.size w W) (hlt2 : w.heap.size + 2 < W.heap.size) :
   Hid (ItemsOwn (w6.setCell ⟨w.heap.size + 2, 4, none⟩ (.slice (some ⟨gg, 0, none⟩) (j + 1) cp)) W.heap.size (.slice (some ⟨gg, 0, none⟩) (j + 1) cp) (xs ++ [(⟨5, 0, ⟨#[]⟩, some ⟨A, 0, none⟩, 2, 2, some ⟨I, 0, none⟩, 2, 2⟩, sgV s)])) ∧
   Hid (BlkAt (w6.setCell ⟨w.heap.size + 2, 4, none⟩ (.slice (some ⟨gg, 0, none⟩) (j + 1) cp)) (w.heap.size + 2) 26 #[.int .u8 4, .int .i64 0, .string ⟨#[]⟩, .slice none 0 0, .slice (some ⟨gg, 0, none⟩) (j + 1) cp]) ∧
   Hid (∀ k, k < W.heap.size → k ≠ w.heap.size + 2 → (w6.setCell ⟨w.heap.size + 2, 4, none⟩ (.slice (some ⟨gg, 0, none⟩) (j + 1) cp)).heap[k]? = W.heap[k]?) ∧
   Hid (Below w.heap.size w (w6.setCell ⟨w.heap.size + 2, 4, none⟩ (.slice (some ⟨gg, 0, none⟩) (j + 1) cp))) ∧
   W.heap.size ≤ (w6.setCell ⟨w.heap.size + 2, 4, none⟩ (.slice (some ⟨gg, 0, none⟩) (j + 1) cp)).heap.size := by
 have HI7 := item_done hI1 hxs hb hsz1 hgrow hat hown6 hzs.1 hzs.2 hA hI hAl hIl
 have hlow : ∀ k, k < W.heap.size → some k ≠ (Value.slice ia j ic).ownBlock := fun k hk e => by have := (World.ownsRow.lt hI1.1 k e.symm).1; omega
 have hc6 : BlkAt w6 (w.heap.size + 2) 26 #[.int .u8 4, .int .i64 0, .string ⟨#[]⟩, .slice none 0 0, .slice ia j ic] := BlkAt.grown (BlkAt.keep HC1 hb) hgrow (hlow _ hlt2)
 have hkw : ∀ k, k < W.heap.size → w6.heap[k]? = w1.heap[k]? := fun k hk => (hgrow.block k (Nat.lt_of_lt_of_le (Nat.lt_of_lt_of_le hk hsz1) hb.size) (hlow k hk)).trans (hb.block k (Nat.lt_of_lt_of_le hk hsz1))
 have hb6 : Below w.heap.size w w6 := (below_more HB1 hb).grown hgrow (by have := HB1.size; have := hb.size; omega) (fun k hk => by have := (World.ownsRow.lt hI1.1 k hk).1; have := HBW.size; omega)
 refine ⟨HI7.set (b := w.heap.size + 2) hlt2 4 _, hc6.set 4 _, fun k hk hne => (Below.heap_setCell _ _ _ _ hne).trans ((hkw k hk).trans (HK1 k hk hne)), bel_set hb6 (by show w.heap.size ≤ w.heap.size + 2; omega) _, ?_⟩
 rw [setCell_size]
 have := hgrow.size
 have := hb.size
 omega
def objD (M j ic : Nat) (ia : Option Addr) (s : SigP) (k : Nat) (v : Value) (w : World) : Prop :=
 match k with
 | 1 => v = .slice ia j ic
 | 2 => ∃ A, v = .slice (some ⟨A, 0, none⟩) 2 2 ∧ M ≤ A ∧ BlkAt w A 9 #[.string tKey, .string tSig]
 | 4 => v = .string s.1
 | 5 => v = .agg #[.int .u8 3, .int .i64 0, .string s.1, .slice none 0 0, .slice none 0 0]
 | 7 => v = .string s.2
 | 8 => v = .agg #[.int .u8 3, .int .i64 0, .string s.2, .slice none 0 0, .slice none 0 0]
 | 9 => ∃ I, v = .slice (some ⟨I, 0, none⟩) 2 2 ∧ M ≤ I ∧ BlkAt w I 26 #[.int .u8 3, .int .i64 0, .string s.1, .slice none 0 0, .slice none 0 0, .int .u8 3, .int .i64 0, .string s.2, .slice none 0 0, .slice none 0 0]
 | 10 => ∃ A I, v = .agg #[.int .u8 5, .int .i64 0, .string ⟨#[]⟩, .slice (some ⟨A, 0, none⟩) 2 2, .slice (some ⟨I, 0, none⟩) 2 2] ∧ M ≤ A ∧ M ≤ I ∧ BlkAt w A 9 #[.string tKey, .string tSig] ∧ BlkAt w I 26 #[.int .u8 3, .int .i64 0, .string s.1, .slice none 0 0, .slice none 0 0, .int .u8 3, .int .i64 0, .string s.2, .slice none 0 0, .slice none 0 0]
 | 11 => ∃ B A I, v = .slice (some ⟨B, 0, none⟩) 1 1 ∧ M ≤ A ∧ M ≤ I ∧ BlkAt w A 9 #[.string tKey, .string tSig] ∧ BlkAt w I 26 #[.int .u8 3, .int .i64 0, .string s.1, .slice none 0 0, .slice none 0 0, .int .u8 3, .int .i64 0, .string s.2, .slice none 0 0, .slice none 0 0] ∧ BlkAt w B 26 #[.int .u8 5, .int .i64 0, .string ⟨#[]⟩, .slice (some ⟨A, 0, none⟩) 2 2, .slice (some ⟨I, 0, none⟩) 2 2]
 | _ => True
theorem objD_keep {M j ic : Nat} {ia : Option Addr} {s : SigP} : ∀ k v w w', objD M j ic ia s k v w → Below w.heap.size w w' → objD M j ic ia s k v w' := by
 intro k v w w' h hb
 unfold objD at h ⊢
 split at h <;> try exact h
 · obtain ⟨A, h1, h2, h3⟩ := h
   exact ⟨A, h1, h2, BlkAt.keep h3 hb⟩
 · obtain ⟨A, h1, h2, h3⟩ := h
   exact ⟨A, h1, h2, BlkAt.keep h3 hb⟩
 · obtain ⟨A, I, h1, h2, h3, h4, h5⟩ := h
   exact ⟨A, I, h1, h2, h3, BlkAt.keep h4 hb, BlkAt.keep h5 hb⟩
 · obtain ⟨B, A, I, h1, h2, h3, h4, h5, h6⟩ := h
   exact ⟨B, A, I, h1, h2, h3, BlkAt.keep h4 hb, BlkAt.keep h5 hb, BlkAt.keep h6 hb⟩
set_option maxHeartbeats 64000000 in
theorem sObject_any (X : JV) (l : List SigP) (y : VC) (a : Option Addr) (n c : Nat) (w : World) (hn : l.length = n) (h : ValAt w X y.val) (hs : SigsAt w (.slice a n c) l) (hl : n ≤ 1000) (hz : ∀ s ∈ l, s.1.size ≤ maxLen ∧ s.2.size ≤ maxLen) :
   Calls Tryz.prog 23 #[envVal y a n c] w fun e w' => ∃ v : VC, e = .returned v.val ∧ Below w.heap.size w w' ∧ ValAt w' (envO l X) v.val := by
 obtain ⟨yk, yn, yt, ya, yl, yc, yb, ym, ye⟩ := y
 obtain ⟨W, hW⟩ : ∃ W, W = ((w.alloc (.cells #[.int .u8 yk, .int .i64 yn, .string yt, .slice ya yl yc, .slice yb ym ye, .slice a n c] 29)).alloc (.cells #[.int .u8 0, .int .i64 0, .string ⟨#[]⟩, .slice none 0 0, .slice none 0 0] 26)).alloc (.cells #[.int .u8 4, .int .i64 0, .string ⟨#[]⟩, .slice none 0 0, .slice none 0 0] 26) := ⟨_, rfl⟩
 have hbW : Below w.heap.size w W := by rw [hW]; exact bel_alloc (bel_alloc (bel_alloc (Below.refl _ _) _) _) _
 have hsW : W.heap.size = w.heap.size + 3 := by rw [hW, size_al, size_al, size_al]
 have hK0 : BlkAt W w.heap.size 29 #[.int .u8 yk, .int .i64 yn, .string yt, .slice ya yl yc, .slice yb ym ye, .slice a n c] := by
   rw [hW]
   exact ((blkAt_new w _ _).alloc _).alloc _
 have hK1 : BlkAt W (w.heap.size + 1) 26 #[.int .u8 0, .int .i64 0, .string ⟨#[]⟩, .slice none 0 0, .slice none 0 0] := by
   rw [hW]
   refine BlkAt.alloc ?_ _
   have := blkAt_new (w.alloc (.cells #[.int .u8 yk, .int .i64 yn, .string yt, .slice ya yl yc, .slice yb ym ye, .slice a n c] 29)) #[.int .u8 0, .int .i64 0, .string ⟨#[]⟩, .slice none 0 0, .slice none 0 0] 26
   rwa [size_al] at this
 have hK2 : BlkAt W (w.heap.size + 2) 26 #[.int .u8 4, .int .i64 0, .string ⟨#[]⟩, .slice none 0 0, .slice none 0 0] := by
   have := blkAt_new ((w.alloc (.cells #[.int .u8 yk, .int .i64 yn, .string yt, .slice ya yl yc, .slice yb ym ye, .slice a n c] 29)).alloc (.cells #[.int .u8 0, .int .i64 0, .string ⟨#[]⟩, .slice none 0 0, .slice none 0 0] 26)) #[.int .u8 4, .int .i64 0, .string ⟨#[]⟩, .slice none 0 0, .slice none 0 0] 26
   rw [← hW, size_al, size_al] at this
   exact this
 have HC := Lib.hid (show n = l.length ∧ ∀ i s, l[i]? = some s → ∃ b o, a = some ⟨b, o, none⟩ ∧ w.cell? ⟨b, o + i * 2, none⟩ = some (.string s.1) ∧ w.cell? ⟨b, o + i * 2 + 1, none⟩ = some (.string s.2) by
   obtain ⟨a', c', e, hc⟩ := hs
   cases e
   exact ⟨rfl, hc⟩)
 have HV := Lib.hid h
 have HK0 := Lib.hid hK0
 have HK1 := Lib.hid hK1
 have HK2 := Lib.hid hK2
 have HBW := Lib.hid hbW
 have HN := Lib.hid hn
 have HW := Lib.hid hW
 have HZ := Lib.hid hz
 obtain ⟨i0, hi, hz0, hz1, hz2⟩ := info_parts infoVal
 have HI := Lib.hid hi
 have HZ0 := Lib.hid hz0
 have HZ1 := Lib.hid hz1
 have HZ2 := Lib.hid hz2
 obtain ⟨k0, k1, k2, k3, k4, k5, kf⟩ := b6' HK0.out
 have HTX := Lib.hid (fun (s : ByteArray) (Y : World) => textOf_any s Y)
 clear hs h hbW hn hW hK0 hK1 hK2 hi hz0 hz1 hz2 hz
 go_enter Tryz.func23, Tryz.ntmps23
 simp only [envVal, VC.val] at HV ⊢
 go_wp2_with fail
 rw [← HW.out]
 go_loopg [10] n (fun gk u wr => ∃ (j : Nat) (xs : List XI) (ia : Option Addr) (ic : Nat), gk = n - j ∧ u = .int .i64 j ∧ j ≤ n ∧ xs.length = j ∧ Hid (xs.map Prod.snd = (l.take j).map sgV) ∧ W.heap.size ≤ wr.heap.size ∧ Hid (Below w.heap.size w wr) ∧ Hid (BlkAt wr (w.heap.size + 2) 26 #[.int .u8 4, .int .i64 0, .string ⟨#[]⟩, .slice none 0 0, .slice ia j ic]) ∧ Hid (ItemsOwn wr W.heap.size (.slice ia j ic) xs) ∧ Hid (∀ k, k < W.heap.size → k ≠ w.heap.size + 2 → wr.heap[k]? = W.heap[k]?))
 case atStart => exact ⟨0, [], none, 0, rfl, rfl, Nat.zero_le _, rfl, rfl, Nat.le_refl _, HBW, HK2, ItemsOwn.nil _ _, fun k _ _ => rfl⟩
 case round =>
   obtain ⟨j, xs, ia, ic, rfl, rfl, hj, hxs, HXS, hsz, HBr, HCr, HIr, HKr⟩ := hrel
   by_cases hjn : j < n
   · obtain ⟨s, hs⟩ : ∃ s, l[j]? = some s := ⟨_, List.getElem?_eq_getElem (by rw [HN.out]; exact hjn)⟩
     obtain ⟨b1, o1, rfl, p1, p2⟩ := HC.out.2 j s hs
     have p1' := cell_keep HBr.out p1
     have p2' := cell_keep HBr.out p2
     have i0' : (0 : Int) ≤ (j : Int) := by omega
     have i1' : (j : Int) < (n : Int) := by omega
     have HS := Lib.hid hs
     clear hs p1 p2
     go_wp2_with fail
     have hba : Below wr.heap.size wr (wr.alloc (.cells #[.string s.1, .string s.2] 43)) := bel_alloc (Below.refl _ _) _
     have HT1 : Hid (BlkAt (wr.alloc (.cells #[.string s.1, .string s.2] 43)) wr.heap.size 43 #[.string s.1, .string s.2]) := blkAt_new wr _ _
     have hsa := size_al wr (.cells #[.string s.1, .string s.2] 43)
     have HI1 : Hid (ItemsOwn (wr.alloc (.cells #[.string s.1, .string s.2] 43)) W.heap.size (.slice ia j ic) xs) := HIr.out.kept (r := w.heap.size) (by omega) (grown_alloc (World.grownBy.refl _ _) _)
     have HC1 := Lib.hid (BlkAt.keep HCr.out hba)
     have HB1 := Lib.hid (below_more HBr.out hba)
     have HK1 : Hid (∀ k, k < W.heap.size → k ≠ w.heap.size + 2 → (wr.alloc (.cells #[.string s.1, .string s.2] 43)).heap[k]? = W.heap[k]?) := fun k hk hne => (hba.block k (by omega)).trans (HKr.out k hk hne)
     clear hba
     generalize wr.alloc (.cells #[.string s.1, .string s.2] 43) = w1 at HT1 hsa HI1 HC1 HB1 HK1 ⊢
     obtain ⟨tb, htb⟩ : ∃ z, wr.heap.size = z := ⟨_, rfl⟩
     rw [htb] at HT1 hsa hsz ⊢
     have hsz1 : W.heap.size ≤ w1.heap.size := by omega
     clear HCr HIr HBr HKr htb p1' p2'
     obtain ⟨a0, a1, af⟩ := b2 HT1.out
     obtain ⟨-, -, -, -, c4, cf⟩ := b5 HC1.out
     have hlt2 : w.heap.size + 2 < W.heap.size := by omega
     have ho1 := own_len hxs HI1.out.1
     refine wp_region_any (by kernel_rfl) ?_
     refine wpAny_pure (i := 0) (v := .pointer (some ⟨w.heap.size + 2, 4, none⟩)) rfl (by kernel_rfl) (by kernel_rfl) (by kernel_rfl) (fun _ _ _ h => h) (Or.inl ⟨by rfl, fun Y => by go_simp⟩) ?_
     simp only [Act.put, List.setIfInBounds_toArray, List.set_cons_zero, List.set_cons_succ]
     refine wpAny_pure (i := 3) (v := .pointer (some ⟨tb, 0, none⟩)) rfl (by kernel_rfl) (by kernel_rfl) (by kernel_rfl) (fun _ _ _ h => h) (Or.inl ⟨by rfl, fun Y => by go_simp⟩) ?_
     simp only [Act.put, List.setIfInBounds_toArray, List.set_cons_zero, List.set_cons_succ]
     refine wpAny_pure (i := 6) (v := .pointer (some ⟨tb, 1, none⟩)) rfl (by kernel_rfl) (by kernel_rfl) (by kernel_rfl) (fun _ _ _ h => h) (Or.inl ⟨by rfl, fun Y => by go_simp⟩) ?_
     simp only [Act.put, List.setIfInBounds_toArray, List.set_cons_zero, List.set_cons_succ]
     refine wpAny_puts [(1, some 15), (2, some 16), (4, some 18), (5, some 19), (7, some 21), (8, some 22), (9, some 23), (10, some 24), (11, some 25)] 12 [13, 14] (by kernel_rfl) (by kernel_rfl) (of_decide_eq_true (by kernel_rfl)) (fun w' => Below w1.heap.size w1 w') (objD w1.heap.size j ic ia s) objD_keep (bel_drew (Below.refl _ _)) ?_ ?_
     ·
       refine PutSteps.at rfl (fun vs Y hG hdep K hK => ?_) ?_
       · simp only [putsOf, List.foldl_cons, List.foldl_nil, Act.put, List.setIfInBounds_toArray, List.set_cons_zero, List.set_cons_succ] at hK ⊢
         have y4 := cell_keep hG c4
         go_simp
         exact hK.out (.slice ia j ic) _ _ rfl hG (Below.refl _ _) rfl
       refine PutSteps.at rfl (fun vs Y hG hdep K hK => ?_) ?_
       · simp only [putsOf, List.foldl_cons, List.foldl_nil, Act.put, List.setIfInBounds_toArray, List.set_cons_zero, List.set_cons_succ] at hK ⊢
         go_simp
         exact hK.out (.slice (some ⟨Y.heap.size, 0, none⟩) 2 2) _ _ rfl (bel_alloc hG _) (bel_alloc (Below.refl _ _) _) ⟨_, rfl, hG.size, blkAt_new _ _ _⟩
       refine PutSteps.at rfl (fun vs Y hG hdep K hK => ?_) ?_
       · simp only [putsOf, List.foldl_cons, List.foldl_nil, Act.put, List.setIfInBounds_toArray, List.set_cons_zero, List.set_cons_succ] at hK ⊢
         have y0 := cell_keep hG a0
         go_simp
         exact hK.out (.string s.1) _ _ rfl hG (Below.refl _ _) rfl
       refine PutSteps.at rfl (fun vs Y hG hdep K hK => ?_) ?_
       · have e4 : vs 4 = .string s.1 := hdep 4 rfl (by kernel_rfl)
         simp only [putsOf, List.foldl_cons, List.foldl_nil, Act.put, List.setIfInBounds_toArray, List.set_cons_zero, List.set_cons_succ] at hK ⊢
         rw [e4] at hK ⊢
         go_simp
         refine (HTX.out _ _).mono ?_
         rintro e w4 ⟨rfl, hb4⟩
         exact hK.out (.agg #[.int .u8 3, .int .i64 0, .string s.1, .slice none 0 0, .slice none 0 0]) _ _ rfl (below_more hG hb4) hb4 rfl
       refine PutSteps.at rfl (fun vs Y hG hdep K hK => ?_) ?_
       · simp only [putsOf, List.foldl_cons, List.foldl_nil, Act.put, List.setIfInBounds_toArray, List.set_cons_zero, List.set_cons_succ] at hK ⊢
         have y1 := cell_keep hG a1
         go_simp
         exact hK.out (.string s.2) _ _ rfl hG (Below.refl _ _) rfl
       refine PutSteps.at rfl (fun vs Y hG hdep K hK => ?_) ?_
       · have e7 : vs 7 = .string s.2 := hdep 7 rfl (by kernel_rfl)
         simp only [putsOf, List.foldl_cons, List.foldl_nil, Act.put, List.setIfInBounds_toArray, List.set_cons_zero, List.set_cons_succ] at hK ⊢
         rw [e7] at hK ⊢
         go_simp
         refine (HTX.out _ _).mono ?_
         rintro e w4 ⟨rfl, hb4⟩
         exact hK.out (.agg #[.int .u8 3, .int .i64 0, .string s.2, .slice none 0 0, .slice none 0 0]) _ _ rfl (below_more hG hb4) hb4 rfl
       refine PutSteps.at rfl (fun vs Y hG hdep K hK => ?_) ?_
       · have e5 : vs 5 = .agg #[.int .u8 3, .int .i64 0, .string s.1, .slice none 0 0, .slice none 0 0] := hdep 5 rfl (by kernel_rfl)
         have e8 : vs 8 = .agg #[.int .u8 3, .int .i64 0, .string s.2, .slice none 0 0, .slice none 0 0] := hdep 8 rfl (by kernel_rfl)
         simp only [putsOf, List.foldl_cons, List.foldl_nil, Act.put, List.setIfInBounds_toArray, List.set_cons_zero, List.set_cons_succ] at hK ⊢
         rw [e5, e8] at hK ⊢
         go_simp
         exact hK.out (.slice (some ⟨Y.heap.size, 0, none⟩) 2 2) _ _ rfl (bel_alloc hG _) (bel_alloc (Below.refl _ _) _) ⟨_, rfl, hG.size, blkAt_new _ _ _⟩
       refine PutSteps.at rfl (fun vs Y hG hdep K hK => ?_) ?_
       · obtain ⟨A, e2, hA1, hA2⟩ := show ∃ A, vs 2 = .slice (some ⟨A, 0, none⟩) 2 2 ∧ w1.heap.size ≤ A ∧ BlkAt Y A 9 #[.string tKey, .string tSig] from hdep 2 rfl (by kernel_rfl)
         obtain ⟨I, e9, hI1, hI2⟩ := show ∃ I, vs 9 = .slice (some ⟨I, 0, none⟩) 2 2 ∧ w1.heap.size ≤ I ∧ BlkAt Y I 26 #[.int .u8 3, .int .i64 0, .string s.1, .slice none 0 0, .slice none 0 0, .int .u8 3, .int .i64 0, .string s.2, .slice none 0 0, .slice none 0 0] from hdep 9 rfl (by kernel_rfl)
         simp only [putsOf, List.foldl_cons, List.foldl_nil, Act.put, List.setIfInBounds_toArray, List.set_cons_zero, List.set_cons_succ] at hK ⊢
         rw [e2, e9] at hK ⊢
         go_simp
         exact hK.out (.agg #[.int .u8 5, .int .i64 0, .string ⟨#[]⟩, .slice (some ⟨A, 0, none⟩) 2 2, .slice (some ⟨I, 0, none⟩) 2 2]) _ _ rfl hG (Below.refl _ _) ⟨A, I, rfl, hA1, hI1, hA2, hI2⟩
       refine PutSteps.at rfl (fun vs Y hG hdep K hK => ?_) PutSteps.nil
       · obtain ⟨A, I, e10, hA1, hI1, hA2, hI2⟩ := show ∃ A I, vs 10 = .agg #[.int .u8 5, .int .i64 0, .string ⟨#[]⟩, .slice (some ⟨A, 0, none⟩) 2 2, .slice (some ⟨I, 0, none⟩) 2 2] ∧ w1.heap.size ≤ A ∧ w1.heap.size ≤ I ∧ BlkAt Y A 9 #[.string tKey, .string tSig] ∧ BlkAt Y I 26 #[.int .u8 3, .int .i64 0, .string s.1, .slice none 0 0, .slice none 0 0, .int .u8 3, .int .i64 0, .string s.2, .slice none 0 0, .slice none 0 0] from hdep 10 rfl (by kernel_rfl)
         simp only [putsOf, List.foldl_cons, List.foldl_nil, Act.put, List.setIfInBounds_toArray, List.set_cons_zero, List.set_cons_succ] at hK ⊢
         rw [e10] at hK ⊢
         go_simp
         exact hK.out (.slice (some ⟨Y.heap.size, 0, none⟩) 1 1) _ _ rfl (bel_alloc hG _) (bel_alloc (Below.refl _ _) _) ⟨_, A, I, rfl, hA1, hI1, BlkAt.alloc hA2 _, BlkAt.alloc hI2 _, blkAt_new _ _ _⟩
     · intro vs Y hG hdep
       have e1 : vs 1 = .slice ia j ic := hdep 1 rfl
       obtain ⟨B, A, I, e11, hA1, hI1, hA2, hI2, hB2⟩ := show ∃ B A I, vs 11 = .slice (some ⟨B, 0, none⟩) 1 1 ∧ w1.heap.size ≤ A ∧ w1.heap.size ≤ I ∧ BlkAt Y A 9 #[.string tKey, .string tSig] ∧ BlkAt Y I 26 #[.int .u8 3, .int .i64 0, .string s.1, .slice none 0 0, .slice none 0 0, .int .u8 3, .int .i64 0, .string s.2, .slice none 0 0, .slice none 0 0] ∧ BlkAt Y B 26 #[.int .u8 5, .int .i64 0, .string ⟨#[]⟩, .slice (some ⟨A, 0, none⟩) 2 2, .slice (some ⟨I, 0, none⟩) 2 2] from hdep 11 rfl
       simp only [putsOf, List.foldl_cons, List.foldl_nil, Act.put, List.setIfInBounds_toArray, List.set_cons_zero, List.set_cons_succ]
       simp only [List.filterMap_cons, List.filterMap_nil, nthO]
       rw [e1, e11]
       refine wpList_step fun K hK => ?_
       refine step_append_lies Y rfl _ _ _ rfl W.heap.size 26 i0 _ 5 80 Tryz.underlying24 HI.out HZ0.out HZ1.out HZ2.out rfl (by decide) (.slice ia j ic) j (xiCells xs) rfl (ownsRow_keep ho1 hG) ⟨B, 0, none⟩ 1 1 [.int .u8 5, .int .i64 0, .string ⟨#[]⟩, .slice (some ⟨A, 0, none⟩) 2 2, .slice (some ⟨I, 0, none⟩) 2 2] rfl rfl (World.news_of_block (fr := (0, 0)) hB2) (by intro u hu; simp only [List.mem_cons, List.not_mem_nil, or_false] at hu; rcases hu with rfl | rfl | rfl | rfl | rfl <;> rfl) (by decide) (by unfold maxLen; omega) (by omega) (Nat.le_trans hsz1 hG.size) Y.heap.size rfl ?_
       intro gg cp' w6 hown6 hgrow hat hlt
       refine hK _ _ ?_
       have hzs := HZ.out s (List.mem_of_getElem? HS.out)
       have hr := obj_round HI1.out hxs hG hsz1 hgrow hat hown6 hzs hA2 hI2 hA1 hI1 HC1.out HK1.out HB1.out HBW.out hlt2
       obtain ⟨HI8, HC8, HK8, HB8, hs8⟩ := hr
       have hc6 : BlkAt w6 (w.heap.size + 2) 26 #[.int .u8 4, .int .i64 0, .string ⟨#[]⟩, .slice none 0 0, .slice ia j ic] := BlkAt.grown (BlkAt.keep HC1.out hG) hgrow (fun e => by have := (World.ownsRow.lt HI1.out.1 _ e.symm).1; omega)
       have HS9 := HS.out
       have HX9 := HXS.out
       have hj8 : j + 1 ≤ n := hjn
       have hm8 : n - (j + 1) < n - j := by omega
       obtain ⟨-, -, -, -, g4, gf⟩ := b5 hc6
       clear hown6 hgrow hat hlt hc6 hzs hdep hA2 hI2 hB2 e1 e11
       refine wpList_plain rfl fun K hK => ?_
       go_simp
       refine hK _ _ ?_
       refine wpList_plain rfl fun K hK => ?_
       go_simp
       refine hK _ _ ?_
       refine wpList_nil ?_
       obtain ⟨w7, hw7⟩ : ∃ z, w6.setCell ⟨w.heap.size + 1 + 1, 4, none⟩ (.slice (some ⟨gg, 0, none⟩) (j + 1) cp') = z := ⟨_, rfl⟩
       rw [hw7]
       have hw8 : w6.setCell ⟨w.heap.size + 2, 4, none⟩ (.slice (some ⟨gg, 0, none⟩) (j + 1) cp') = w7 := hw7
       rw [hw8] at HI8 HC8 HK8 HB8 hs8
       clear hw7 hw8 g4 gf
       go_wp2_with fail
       go_roundg (n - (j + 1))
       case rel => exact ⟨j + 1, _, some ⟨gg, 0, none⟩, cp', rfl, by go_num, hj8, by rw [List.length_append, hxs]; rfl, Lib.hid (by rw [List.map_append, HX9, List.take_add_one, HS9]; simp), hs8, HB8, HC8, HI8, HK8⟩
       case measure => exact hm8
   · have i1 : ¬ (j : Int) < (n : Int) := by omega
     have hje : j = n := by omega
     subst hje
     have hxv : xs.map Prod.snd = l.map sgV := by
       have := HXS.out
       rwa [List.take_of_length_le (by rw [HN.out]; exact Nat.le_refl _)] at this
     have HXV := Lib.hid hxv
     have hsW2 := hsW
     obtain ⟨c0, c1, c2, c3, c4, cf⟩ := b5 (show BlkAt wr (w.heap.size + 1 + 1) 26 #[.int .u8 4, .int .i64 0, .string ⟨#[]⟩, .slice none 0 0, .slice ia j ic] from HCr.out)
     have hwr2 : w.heap.size + 1 + 1 < wr.heap.size := by omega
     have hwr3 : w.heap.size + 1 < wr.heap.size := by omega
     have hwr4 : w.heap.size < wr.heap.size := by omega
     have HE := Lib.hid (show BlkAt wr w.heap.size 29 #[.int .u8 yk, .int .i64 yn, .string yt, .slice ya yl yc, .slice yb ym ye, .slice a j c] from (HKr.out _ (by omega) (by omega)).trans HK0.out)
     have HR := Lib.hid (show BlkAt wr (w.heap.size + 1) 26 #[.int .u8 0, .int .i64 0, .string ⟨#[]⟩, .slice none 0 0, .slice none 0 0] from (HKr.out _ (by omega) (by omega)).trans HK1.out)
     obtain ⟨e0, e1, e2, e3, e4, e5, ef⟩ := b6' HE.out
     obtain ⟨r0, r1, r2, r3, r4, rf⟩ := b5 HR.out
     have hwr : w.heap.size + 3 ≤ wr.heap.size := by omega
     clear hxv HXS
     go_wp2_with fail
     obtain ⟨ws, hws⟩ : ∃ z, ((((wr.setCell ⟨w.heap.size + 1, 0, none⟩ (.int .u8 5)).setCell ⟨w.heap.size + 1, 1, none⟩ (.int .i64 0)).setCell ⟨w.heap.size + 1, 2, none⟩ (.string ⟨#[]⟩)).setCell ⟨w.heap.size + 1, 3, none⟩ (.slice (some ⟨wr.heap.size, 0, none⟩) 2 2)).setCell ⟨w.heap.size + 1, 4, none⟩ (.slice (some ⟨wr.heap.size + 1, 0, none⟩) 2 2) = z := ⟨_, rfl⟩
     have hss : ws.heap.size = wr.heap.size := by rw [← hws]; simp only [setCell_size]
     have hRs : BlkAt ws (w.heap.size + 1) 26 #[.int .u8 5, .int .i64 0, .string ⟨#[]⟩, .slice (some ⟨wr.heap.size, 0, none⟩) 2 2, .slice (some ⟨wr.heap.size + 1, 0, none⟩) 2 2] := by rw [← hws]; exact blk_set5 HR.out _ _ _ _ _
     have hkk : ∀ k, k ≠ w.heap.size + 1 → ws.heap[k]? = wr.heap[k]? := fun k hk => by rw [← hws]; exact heap_set5 _ _ _ _ _ _ _ _ hk
     have hbs : Below w.heap.size w ws := by rw [← hws]; exact bset5 HBr.out (Nat.le_succ _) _ _ _ _ _
     rw [hws]
     obtain ⟨wf, hwf⟩ : ∃ z, (ws.alloc (.cells #[.string ⟨#[115, 105, 103, 110, 97, 116, 117, 114, 101, 115]⟩, .string ⟨#[115, 105, 103, 110, 101, 100]⟩] 9)).alloc (.cells #[.int .u8 4, .int .i64 0, .string ⟨#[]⟩, .slice none 0 0, .slice ia j ic, .int .u8 yk, .int .i64 yn, .string yt, .slice ya yl yc, .slice yb ym ye] 26) = z := ⟨_, rfl⟩
     have hbf : Below ws.heap.size ws wf := by rw [← hwf]; exact bel_alloc (bel_alloc (Below.refl _ _) _) _
     have hAf : BlkAt wf wr.heap.size 9 #[.string tSigs, .string tSigned] := by
       rw [← hwf, ← hss]
       exact (blkAt_new ws _ _).alloc _
     have hIf : BlkAt wf (wr.heap.size + 1) 26 #[.int .u8 4, .int .i64 0, .string ⟨#[]⟩, .slice none 0 0, .slice ia j ic, .int .u8 yk, .int .i64 yn, .string yt, .slice ya yl yc, .slice yb ym ye] := by
       have := blkAt_new (ws.alloc (.cells #[.string ⟨#[115, 105, 103, 110, 97, 116, 117, 114, 101, 115]⟩, .string ⟨#[115, 105, 103, 110, 101, 100]⟩] 9)) #[.int .u8 4, .int .i64 0, .string ⟨#[]⟩, .slice none 0 0, .slice ia j ic, .int .u8 yk, .int .i64 yn, .string yt, .slice ya yl yc, .slice yb ym ye] 26
       rw [size_al, hss, hwf] at this
       exact this
     have hRf := BlkAt.keep hRs hbf
     rw [hwf]
     have hBf := below_more hbs hbf
     have hXf : ValAt wf X (.agg #[.int .u8 yk, .int .i64 yn, .string yt, .slice ya yl yc, .slice yb ym ye]) := HV.out.keep hBf
     have hit := HIr.out.out (by omega)
     rw [HXV.out] at hit
     have hLf : ItemsAt wf (.slice ia j ic) (l.map sgV) := (hit.imp (hid_imp (Q := fun _ => false) (w' := wf) fun k hk ho => ⟨rfl, (hbf.block k (by rw [hss]; exact hk)).trans (hkk k (by have := offB_none.1 ho; omega))⟩)).imp fun p u hu => ((hidden_cell _ _ _ _).1 hu).2.2
     have hcn : ∀ i v, (#[Value.string tSigs, .string tSigned] : Array Value)[i]? = some v → wf.cell? ⟨wr.heap.size, i, none⟩ = some v := fun i v h => by rw [hAf.cell i]; exact h
     have hci : ∀ i v, (#[.int .u8 4, .int .i64 0, .string ⟨#[]⟩, .slice none 0 0, .slice ia j ic, .int .u8 yk, .int .i64 yn, .string yt, .slice ya yl yc, .slice yb ym ye] : Array Value)[i]? = some v → wf.cell? ⟨wr.heap.size + 1, i, none⟩ = some v := fun i v h => by rw [hIf.cell i]; exact h
     have hvf : ValAt wf (envO l X) (VC.val ⟨5, 0, ⟨#[]⟩, some ⟨wr.heap.size, 0, none⟩, 2, 2, some ⟨wr.heap.size + 1, 0, none⟩, 2, 2⟩) := by
       refine valAt_lit (by rfl) (strsAt_lit (by rfl) ⟨hcn 0 _ rfl, hcn 1 _ rfl, trivial⟩) (itemsAt_lit (by rfl) ?_)
       refine rowAt_cons (valAt_mk (by decide) (by decide) (by decide) (by decide) (by decide) (strsAt_nil _) hLf) (hci 0 _ rfl) (hci 1 _ rfl) (hci 2 _ rfl) (hci 3 _ rfl) (hci 4 _ rfl) ?_
       exact rowAt_cons hXf (hci 5 _ rfl) (hci 6 _ rfl) (hci 7 _ rfl) (hci 8 _ rfl) (hci 9 _ rfl) (rowAt_nil _ _ _)
     obtain ⟨q0, q1, q2, q3, q4, -⟩ := b5 hRf
     clear r0 r1 r2 r3 r4 rf e0 e1 e2 e3 e4 e5 ef c0 c1 c2 c3 c4 cf hwf hws
     exact bodyPost_ret (v := VC.val ⟨5, 0, ⟨#[]⟩, some ⟨wr.heap.size, 0, none⟩, 2, 2, some ⟨wr.heap.size + 1, 0, none⟩, 2, 2⟩) (by simp [results, Tryz.results23, go_sem, VC.val, q0, q1, q2, q3, q4]) rfl ⟨⟨5, 0, ⟨#[]⟩, some ⟨wr.heap.size, 0, none⟩, 2, 2, some ⟨wr.heap.size + 1, 0, none⟩, 2, 2⟩, rfl, hBf, hvf⟩
end

section
set_option maxRecDepth 100000
open Go.RowKit
def envMay (l : List SigP) (X : JV) : Bool := decide (l.length ≤ 32) && decide (X.k = 5) && l.all (fun s => sigB s.1 s.2) && mayB (envO l X)
set_option maxHeartbeats 8000000 in
theorem sMay_any (X : JV) (l : List SigP) (y : VC) (a : Option Addr) (n c : Nat) (w : World) (hn : l.length = n) (h : ValAt w X y.val) (hs : SigsAt w (.slice a n c) l) (hl : n ≤ 1000) (hz : ∀ s ∈ l, s.1.size ≤ 281474976710656 ∧ s.2.size ≤ 281474976710656) (hzm : ∀ s ∈ l, s.1.size ≤ maxLen ∧ s.2.size ≤ maxLen) (r : Bool) (hr : Hid (envMay l X = r)) :
   Calls Tryz.prog 10 #[envVal y a n c] w fun e w' => e = .returned (.bool r) ∧ Below w.heap.size w w' := by
 have HOB := Lib.hid (fun W (hb : Below w.heap.size w W) => sObject_any X l y a n c W hn (h.keep hb) (hs.keep hb) hl hzm)
 have hk5 : y.k = X.k := by
   obtain ⟨_, _, e1, -⟩ := valAt_iff.1 h
   simp only [VC.val, Value.agg.injEq, Array.mk.injEq, List.cons.injEq, Value.int.injEq, true_and] at e1
   exact e1.1
 obtain ⟨yk, yn, yt, ya, yl, yc, yb, ym, ye⟩ := y
 simp only at hk5
 obtain ⟨W, hW⟩ : ∃ W, W = w.alloc (.cells #[.int .u8 yk, .int .i64 yn, .string yt, .slice ya yl yc, .slice yb ym ye, .slice a n c] 29) := ⟨_, rfl⟩
 have hbW : Below w.heap.size w W := by rw [hW]; exact bel_alloc (Below.refl _ _) _
 have hK0 : BlkAt W w.heap.size 29 #[.int .u8 yk, .int .i64 yn, .string yt, .slice ya yl yc, .slice yb ym ye, .slice a n c] := by
   rw [hW]
   exact blkAt_new w _ _
 obtain ⟨k0, k1, k2, k3, k4, k5, kf⟩ := b6' hK0
 have HC := Lib.hid (show n = l.length ∧ ∀ i s, l[i]? = some s → ∃ b o, a = some ⟨b, o, none⟩ ∧ w.cell? ⟨b, o + i * 2, none⟩ = some (.string s.1) ∧ w.cell? ⟨b, o + i * 2 + 1, none⟩ = some (.string s.2) by
   obtain ⟨a', c', e, hc⟩ := hs
   cases e
   exact ⟨rfl, hc⟩)
 have HK0 := Lib.hid hK0
 have HBW := Lib.hid hbW
 have HN := Lib.hid hn
 have HW := Lib.hid hW
 have HZ := Lib.hid hz
 have hr' := hr.out
 unfold envMay at hr'
 rw [hn] at hr'
 clear hs h hbW hn hW hK0 hz hr hzm
 by_cases h32 : n ≤ 32
 · have g32 : decide ((32 : Int) < (n : Int)) = false := decide_eq_false (by omega)
   have g32' : decide (32 < n) = false := decide_eq_false (by omega)
   by_cases h5 : X.k = 5
   · have b5g : (yk != 5) = false := by rw [hk5, h5]; rfl
     rw [decide_eq_true h32, decide_eq_true h5, Bool.true_and, Bool.true_and] at hr'
     have HR := Lib.hid hr'
     clear hr' h5 hk5
     go_enter Tryz.func10, Tryz.ntmps10
     simp only [envVal, VC.val] at HOB ⊢
     go_wp2_with fail
     rw [← HW.out]
     go_loopw [18] (fun i wr => ∃ k : Nat, k ≤ n ∧ i = .int .i64 k ∧ Hid ((l.take k).all (fun s => sigB s.1 s.2) = true) ∧ Hid (Below W.heap.size W wr)) (fun i _ => n - (intOf i).toNat)
     case atStart => exact ⟨0, by omega, rfl, (by show _ = _; simp), Below.refl _ _⟩
     case round =>
       obtain ⟨k, hk, rfl, HA, HBr⟩ := hrel
       by_cases hkn : k < n
       · obtain ⟨s, hs⟩ : ∃ s, l[k]? = some s := ⟨_, List.getElem?_eq_getElem (by rw [HN.out]; exact hkn)⟩
         obtain ⟨b1, o1, rfl, p1, p2⟩ := HC.out.2 k s hs
         have p1' := cell_keep (below_more HBW.out HBr.out) p1
         have p2' := cell_keep (below_more HBW.out HBr.out) p2
         have i0' : (0 : Int) ≤ (k : Int) := by omega
         have i1' : (k : Int) < (n : Int) := by omega
         have hsz := HZ.out s (List.mem_of_getElem? hs)
         obtain ⟨sb, hsb⟩ : ∃ b, sigB s.1 s.2 = b := ⟨_, rfl⟩
         have hms := fun Y => maySig_any s.1 s.2 Y hsz.1 hsz.2
         rw [hsb] at hms
         have HMS := Lib.hid hms
         have HS := Lib.hid hs
         have HSB := Lib.hid hsb
         have HB1 : Hid (Below W.heap.size W (wr.alloc (.cells #[.string s.1, .string s.2] 43))) := bel_alloc HBr.out _
         clear hs p1 p2 hsb hms hsz
         go_wp2_with fail
         refine (HMS.out _).mono ?_
         rintro e w2 ⟨rfl, hb2⟩
         have HB2 := Lib.hid (below_more HB1.out hb2)
         clear hb2
         cases sb with
         | false =>
           have hf : r = false := by
             rw [← HR.out, Bool.and_eq_false_iff]
             left
             rw [List.all_eq_false]
             exact ⟨s, List.mem_of_getElem? HS.out, by rw [HSB.out]; decide⟩
           subst hf
           go_wp2_with fail
           go_ret
           exact ⟨rfl, below_more HBW.out HB2.out⟩
         | true =>
           have HA2 : Hid ((l.take (k + 1)).all (fun s => sigB s.1 s.2) = true) := by
             show _ = _
             rw [List.take_add_one, HS.out, List.all_append, HA.out]
             simp [HSB.out]
           go_wp2_with fail
           exact ⟨⟨k + 1, by omega, by go_num, HA2, HB2⟩, by simp [intOf]; omega⟩
       · have i1 : ¬ (k : Int) < (n : Int) := by omega
         have hall : l.all (fun s => sigB s.1 s.2) = true := by
           have := HA.out
           rwa [List.take_of_length_le (by rw [HN.out]; omega)] at this
         have hmb : mayB (envO l X) = r := by
           have := HR.out
           rwa [hall, Bool.true_and] at this
         have HMB := Lib.hid hmb
         have HBB := Lib.hid (below_more HBW.out HBr.out)
         obtain ⟨m0, m1, m2, m3, m4, m5, mf⟩ := b6' (BlkAt.keep HK0.out HBr.out)
         clear hall hmb HA HBr
         go_wp2_with fail
         refine (HOB.out _ HBB.out).mono ?_
         rintro e w2 ⟨v, rfl, hb2, hv⟩
         have HM := Lib.hid (May_any (envO l X) v.val w2 hv)
         have HB2 := Lib.hid (below_more HBB.out hb2)
         clear hb2 hv
         go_wp2_with fail
         refine HM.out.mono ?_
         rintro e w3 ⟨rfl, hb3⟩
         rw [HMB.out]
         have HB3 := Lib.hid (below_more HB2.out hb3)
         clear hb3
         go_wp2_with fail
         go_ret
         exact ⟨rfl, HB3.out⟩
   · have b5g : (yk != 5) = true := by rw [hk5, bne_iff_ne]; exact h5
     have hf : r = false := by rw [← hr', decide_eq_false h5]; simp
     subst hf
     clear hr' h5 hk5
     go_enter Tryz.func10, Tryz.ntmps10
     simp only [envVal, VC.val] at HOB ⊢
     go_wp2_with fail
     rw [← HW.out]
     go_ret
     exact ⟨rfl, HBW.out⟩
 · have g32 : decide ((32 : Int) < (n : Int)) = true := decide_eq_true (by omega)
   have g32' : decide (32 < n) = true := decide_eq_true (by omega)
   have hf : r = false := by rw [← hr', decide_eq_false h32]; simp
   subst hf
   clear hr' hk5
   go_enter Tryz.func10, Tryz.ntmps10
   simp only [envVal, VC.val] at HOB ⊢
   go_wp2_with fail
   rw [← HW.out]
   go_ret
   exact ⟨rfl, HBW.out⟩
set_option maxHeartbeats 4000000 in
theorem sShow_no (X : JV) (l : List SigP) (y : VC) (a : Option Addr) (n c : Nat) (w : World) (hn : l.length = n) (h : ValAt w X y.val) (hs : SigsAt w (.slice a n c) l) (hl : n ≤ 1000) (hz : ∀ s ∈ l, s.1.size ≤ 281474976710656 ∧ s.2.size ≤ 281474976710656) (hzm : ∀ s ∈ l, s.1.size ≤ maxLen ∧ s.2.size ≤ maxLen) (hm : Hid (envMay l X = false)) :
   Calls Tryz.prog 15 #[envVal y a n c] w fun e w' => e = .returned (.tuple #[.string ⟨#[]⟩, .int .i64 3]) ∧ Below w.heap.size w w' := by
 have HM := Lib.hid (fun W (hb : Below w.heap.size w W) => sMay_any X l y a n c W hn (h.keep hb) (hs.keep hb) hl hz hzm false hm)
 obtain ⟨yk, yn, yt, ya, yl, yc, yb, ym, ye⟩ := y
 have HB1 : Hid (Below w.heap.size w (w.alloc (.cells #[.int .u8 yk, .int .i64 yn, .string yt, .slice ya yl yc, .slice yb ym ye, .slice a n c] 29))) := bel_alloc (Below.refl _ _) _
 clear h hs hz hzm
 go_enter Tryz.func15, Tryz.ntmps15
 simp only [envVal] at HM ⊢
 go_wp2_with fail
 refine (HM.out _ HB1.out).mono ?_
 rintro e w2 ⟨rfl, hb2⟩
 have HB2 := Lib.hid (below_more HB1.out hb2)
 clear hb2
 go_wp2_with fail
 go_ret2
 exact ⟨rfl, HB2.out⟩
set_option maxHeartbeats 4000000 in
theorem sShow_yes (X : JV) (l : List SigP) (y : VC) (a : Option Addr) (n c : Nat) (w : World) (hn : l.length = n) (h : ValAt w X y.val) (hs : SigsAt w (.slice a n c) l) (hl : n ≤ 1000) (hz : ∀ s ∈ l, s.1.size ≤ 281474976710656 ∧ s.2.size ≤ 281474976710656) (hzm : ∀ s ∈ l, s.1.size ≤ maxLen ∧ s.2.size ≤ maxLen) (hm : Hid (envMay l X = true)) (henv : TabEnv w) (s : ByteArray) (hs' : Hid (s = (⟨(formV (envO l X)).toArray⟩ : ByteArray))) :
   Calls Tryz.prog 15 #[envVal y a n c] w fun e w' => e = .returned (.tuple #[.string s, .int .i64 0]) ∧ Below w.heap.size w w' := by
 have HM := Lib.hid (fun W (hb : Below w.heap.size w W) => sMay_any X l y a n c W hn (h.keep hb) (hs.keep hb) hl hz hzm true hm)
 have HOB := Lib.hid (fun W (hb : Below w.heap.size w W) => sObject_any X l y a n c W hn (h.keep hb) (hs.keep hb) hl hzm)
 have HEN : Hid (∀ W, Below w.heap.size w W → TabEnv W) := fun W hb => henv.below hb
 have HMB : Hid (mayB (envO l X) = true) := by
   have := hm.out
   unfold envMay at this
   rw [Bool.and_eq_true] at this
   exact this.2
 obtain ⟨yk, yn, yt, ya, yl, yc, yb, ym, ye⟩ := y
 have HB1 : Hid (Below w.heap.size w (w.alloc (.cells #[.int .u8 yk, .int .i64 yn, .string yt, .slice ya yl yc, .slice yb ym ye, .slice a n c] 29))) := bel_alloc (Below.refl _ _) _
 have HK1 : Hid (BlkAt (w.alloc (.cells #[.int .u8 yk, .int .i64 yn, .string yt, .slice ya yl yc, .slice yb ym ye, .slice a n c] 29)) w.heap.size 29 #[.int .u8 yk, .int .i64 yn, .string yt, .slice ya yl yc, .slice yb ym ye, .slice a n c]) := blkAt_new w _ _
 clear h hs hz hzm henv hm
 go_enter Tryz.func15, Tryz.ntmps15
 simp only [envVal] at HM HOB ⊢
 go_wp2_with fail
 refine (HM.out _ HB1.out).mono ?_
 rintro e w2 ⟨rfl, hb2⟩
 have HB2 := Lib.hid (below_more HB1.out hb2)
 obtain ⟨k0, k1, k2, k3, k4, k5, kf⟩ := b6' (BlkAt.keep HK1.out hb2)
 clear hb2
 go_wp2_with fail
 refine (HOB.out _ HB2.out).mono ?_
 rintro e w3 ⟨v, rfl, hb3, hv⟩
 have HB3 := Lib.hid (below_more HB2.out hb3)
 have HE := Lib.hid (Encode_yes (envO l X) v.val w3 hv (HEN.out _ HB3.out) HMB s hs')
 clear hb3 hv k0 k1 k2 k3 k4 k5 kf
 go_wp2_with fail
 refine HE.out.mono ?_
 rintro e w4 ⟨rfl, hb4⟩
 have HB4 := Lib.hid (below_more HB3.out hb4)
 clear hb4
 go_wp2_with fail
 go_ret2
 exact ⟨rfl, HB4.out⟩
set_option maxHeartbeats 4000000 in
theorem sSigned_yes (X : JV) (l : List SigP) (y : VC) (a : Option Addr) (n c : Nat) (w : World) (hn : l.length = n) (h : ValAt w X y.val) (hs : SigsAt w (.slice a n c) l) (hl : n ≤ 1000) (hz : ∀ s ∈ l, s.1.size ≤ 281474976710656 ∧ s.2.size ≤ 281474976710656) (hzm : ∀ s ∈ l, s.1.size ≤ maxLen ∧ s.2.size ≤ maxLen) (hm : Hid (envMay l X = true)) (hmx : Hid (mayB X = true)) (henv : TabEnv w) (s : ByteArray) (hs' : Hid (s = (⟨(formV X).toArray⟩ : ByteArray))) :
   Calls Tryz.prog 14 #[envVal y a n c] w fun e w' => e = .returned (.tuple #[.string s, .int .i64 0]) ∧ Below w.heap.size w w' := by
 have HM := Lib.hid (fun W (hb : Below w.heap.size w W) => sMay_any X l y a n c W hn (h.keep hb) (hs.keep hb) hl hz hzm true hm)
 have HE := Lib.hid (fun W (hb : Below w.heap.size w W) => Encode_yes X y.val W (h.keep hb) (henv.below hb) hmx s hs')
 obtain ⟨yk, yn, yt, ya, yl, yc, yb, ym, ye⟩ := y
 have HB1 : Hid (Below w.heap.size w (w.alloc (.cells #[.int .u8 yk, .int .i64 yn, .string yt, .slice ya yl yc, .slice yb ym ye, .slice a n c] 29))) := bel_alloc (Below.refl _ _) _
 have HK1 : Hid (BlkAt (w.alloc (.cells #[.int .u8 yk, .int .i64 yn, .string yt, .slice ya yl yc, .slice yb ym ye, .slice a n c] 29)) w.heap.size 29 #[.int .u8 yk, .int .i64 yn, .string yt, .slice ya yl yc, .slice yb ym ye, .slice a n c]) := blkAt_new w _ _
 clear h hs hz hzm henv hm
 go_enter Tryz.func14, Tryz.ntmps14
 simp only [envVal, VC.val] at HM HE ⊢
 go_wp2_with fail
 refine (HM.out _ HB1.out).mono ?_
 rintro e w2 ⟨rfl, hb2⟩
 have HB2 := Lib.hid (below_more HB1.out hb2)
 obtain ⟨k0, k1, k2, k3, k4, k5, kf⟩ := b6' (BlkAt.keep HK1.out hb2)
 clear hb2
 go_wp2_with fail
 refine (HE.out _ HB2.out).mono ?_
 rintro e w4 ⟨rfl, hb4⟩
 have HB4 := Lib.hid (below_more HB2.out hb4)
 clear hb4
 go_wp2_with fail
 go_ret2
 exact ⟨rfl, HB4.out⟩
end
end Go.Proofs.YtmggmpigpiaagaaGreatDoor
