/-
 The examples' envelope: legatelaw16.id, ex.
-/
import Derived.Test.YtmggmpigpiaagaaGreatDoorSignF
import Derived.Test.YtmggmpigpiaagaaGreatDoorCopyA
import Derived.Deep.LoopGhost
import Derived.Laws.OwnMore
namespace Go.Proofs.YtmggmpigpiaagaaGreatDoor
set_option maxRecDepth 100000
open Go.RowKit
theorem infoU8' : (Tryz.prog.info? 5).map (fun i => (i.zero, i.size, i.bytes)) = some (some (.int .u8 0), 1, 1) := by kernel_rfl
def idText (c : UInt8) : ByteArray := ⟨(List.replicate 64 c).toArray⟩
set_option maxHeartbeats 4000000 in
theorem id16_any (c : UInt8) (w : World) :
   Calls Tryz.prog 12 #[.int .u8 (c.toNat : Int)] w fun e w' => e = .returned (.string (idText c)) ∧ Below w.heap.size w w' := by
 obtain ⟨i0, hi, hz0, hz1, hz2⟩ := info_parts infoU8'
 have hmk := run_makeSlice (P := Tryz.prog) w 35 5 i0 (.int .u8 0) Tryz.underlying35 hi hz0 .i64 .i64 64 64 (by omega) (Int.le_refl _) (by rw [hz1]; decide) (by rw [hz2]; decide) (by decide)
 rw [hz1] at hmk
 obtain ⟨cs, hcs⟩ : ∃ cs, cs = madeCells (Value.int .u8 0).cells 64 := ⟨_, rfl⟩
 have hsz : cs.size = 64 := by rw [hcs]; exact size_madeCells _ _
 have e64 : (Int.toNat 64 * 1) = 64 := rfl
 have e64' : (Int.toNat 64) = 64 := rfl
 simp only [e64'] at hmk
 rw [← hcs] at hmk
 have HSZ := Lib.hid hsz
 clear hcs hsz hi hz0 hz1 hz2
 go_enter Tryz.func12, Tryz.ntmps12
 go_wp2_with fail
 have hK1 : Hid (BlkAt (w.alloc (.cells cs 5)) w.heap.size 5 cs) := blkAt_new w cs _
 have hB1 : Hid (Below w.heap.size w (w.alloc (.cells cs 5))) := bel_alloc (Below.refl _ _) _
 generalize w.alloc (.cells cs 5) = w1 at hK1 hB1 ⊢
 obtain ⟨b, hb⟩ : ∃ b, w.heap.size = b := ⟨_, rfl⟩
 have HBB := Lib.hid hb
 rw [hb] at hK1 ⊢
 clear hb hmk
 go_loopg [4] 64 (fun gk u wr => ∃ (i : Nat) (cr : Array Value), 64 - i = gk ∧ u = .int .i64 i ∧ i ≤ 64 ∧ Hid (cr.size = 64) ∧ Hid (BlkAt wr b 5 cr) ∧ Hid (∀ j, j < i → cr[j]? = some (.int .u8 (c.toNat : Int))) ∧ Hid (Below w.heap.size w wr))
 case atStart => exact ⟨0, cs, rfl, rfl, Nat.zero_le _, HSZ, hK1, fun j hj => by omega, hB1⟩
 case round =>
   obtain ⟨i, cr, rfl, rfl, hi, HCS, HK, HL, HB⟩ := hrel
   clear hK1 hB1 HSZ
   by_cases hlt : i < 64
   · have i0 : (0 : Int) ≤ (i : Int) := by omega
     have i1 : (i : Int) < 64 := by omega
     have c0 : wr.cell? ⟨b, i, none⟩ = some (cr[i]'(by rw [HCS.out]; exact hlt)) := by rw [HK.out.cell i]; exact Array.getElem?_eq_getElem _
     have f0 := HK.out.free i
     go_wp2_with fail
     go_roundg (64 - (i + 1))
     case rel =>
       refine ⟨i + 1, cr.setIfInBounds i (.int .u8 (c.toNat : Int)), rfl, by go_num, by omega, ?_, BlkAt.set HK.out i _, fun j hj => ?_, bel_set HB.out (by show w.heap.size ≤ b; rw [HBB.out]; exact Nat.le_refl _) _⟩
       · show _ = _
         rw [Array.size_setIfInBounds, HCS.out]
       · rw [Array.getElem?_setIfInBounds]
         by_cases e : i = j
         · rw [if_pos e, if_pos (by rw [HCS.out]; exact hlt)]
         · rw [if_neg e]; exact HL.out j (by omega)
     case measure => omega
   · have i1 : ¬ (i : Int) < 64 := by omega
     obtain rfl : i = 64 := by omega
     have hcv := run_convert_bytes_back (P := Tryz.prog) wr 35 9 5 ⟨b, 0, none⟩ 64 (List.replicate 64 c) Tryz.underlying35 Tryz.underlying5 Tryz.underlying9 (fun j hj => by
       rw [List.length_replicate] at hj
       have hadd : (⟨b, 0, none⟩ : Addr).add j = ⟨b, j, none⟩ := by unfold Addr.add; split <;> simp_all
       rw [hadd, HK.out.cell j, HL.out j hj, List.getElem_replicate])
     rw [List.length_replicate] at hcv
     go_wp2_with fail
     go_ret
     exact ⟨rfl, HB.out⟩
theorem heap_set6k (w : World) (b k : Nat) (v0 v1 v2 v3 v4 v5 : Value) (h : k ≠ b) :
   ((((((w.setCell ⟨b, 0, none⟩ v0).setCell ⟨b, 1, none⟩ v1).setCell ⟨b, 2, none⟩ v2).setCell ⟨b, 3, none⟩ v3).setCell ⟨b, 4, none⟩ v4).setCell ⟨b, 5, none⟩ v5).heap[k]? = w.heap[k]? := by
 rw [Below.heap_setCell _ _ _ _ h, heap_set5 _ _ _ _ _ _ _ _ h]
def exV : JV := .mk 5 0 ⟨#[]⟩ [⟨#[97]⟩] [.mk 2 1 ⟨#[]⟩ [] []]
def exSig : SigP := (idText 97, ⟨#[48, 48, 102, 102]⟩)
def ExOwn (n : Nat) (w : World) (e : Ending) (w' : World) : Prop :=
 ∃ (y : VC) (a : Option Addr) (c C : Nat), e = .returned (envVal y a n c) ∧ Below w.heap.size w w' ∧ w.heap.size ≤ C ∧ ValAt (hidden (fun k => decide (k < w.heap.size) || decide (C ≤ k)) w') exV y.val ∧ w'.ownsRow C 43 2 (.slice a n c) n (sgCells (List.replicate n exSig))
def ExPost (n : Nat) (w : World) (e : Ending) (w' : World) : Prop :=
 ∃ (y : VC) (a : Option Addr) (c : Nat), e = .returned (envVal y a n c) ∧ Below w.heap.size w w' ∧ ValAt (hidden (offB w.heap.size none) w') exV y.val ∧ SigsAt (hidden (offB w.heap.size none) w') (.slice a n c) (List.replicate n exSig)
set_option maxHeartbeats 8000000 in
theorem ex16_own (n : Nat) (hn : n ≤ 100) (w : World) :
   Calls Tryz.prog 11 #[.int .i64 n] w (ExOwn n w) := by
 obtain ⟨s, hs⟩ : ∃ s, w.heap.size = s := ⟨_, rfl⟩
 obtain ⟨W, hW⟩ : ∃ W, W = (((w.alloc (.cells #[.int .u8 0, .int .i64 0, .string ⟨#[]⟩, .slice none 0 0, .slice none 0 0, .slice none 0 0] 29)).alloc (.cells #[.string ⟨#[97]⟩] 9)).alloc (.cells #[.int .u8 2, .int .i64 1, .string ⟨#[]⟩, .slice none 0 0, .slice none 0 0] 26)).alloc (.cells #[.int .u8 5, .int .i64 0, .string ⟨#[]⟩, .slice (some ⟨s + 1, 0, none⟩) 1 1, .slice (some ⟨s + 2, 0, none⟩) 1 1, .slice none 0 0] 29) := ⟨_, rfl⟩
 have hbW : Below w.heap.size w W := by rw [hW]; exact bel_alloc (bel_alloc (bel_alloc (bel_alloc (Below.refl _ _) _) _) _) _
 have hsW : W.heap.size = s + 4 := by rw [hW, size_al, size_al, size_al, size_al, hs]
 have K0 : BlkAt W s 29 #[.int .u8 0, .int .i64 0, .string ⟨#[]⟩, .slice none 0 0, .slice none 0 0, .slice none 0 0] := by
   rw [hW, ← hs]
   exact (((blkAt_new w _ _).alloc _).alloc _).alloc _
 have K1 : BlkAt W (s + 1) 9 #[.string ⟨#[97]⟩] := by
   rw [hW]
   refine (BlkAt.alloc ?_ _).alloc _
   have := blkAt_new (w.alloc (.cells #[.int .u8 0, .int .i64 0, .string ⟨#[]⟩, .slice none 0 0, .slice none 0 0, .slice none 0 0] 29)) #[.string ⟨#[97]⟩] 9
   rwa [size_al, hs] at this
 have K2 : BlkAt W (s + 2) 26 #[.int .u8 2, .int .i64 1, .string ⟨#[]⟩, .slice none 0 0, .slice none 0 0] := by
   rw [hW]
   refine BlkAt.alloc ?_ _
   have := blkAt_new ((w.alloc (.cells #[.int .u8 0, .int .i64 0, .string ⟨#[]⟩, .slice none 0 0, .slice none 0 0, .slice none 0 0] 29)).alloc (.cells #[.string ⟨#[97]⟩] 9)) #[.int .u8 2, .int .i64 1, .string ⟨#[]⟩, .slice none 0 0, .slice none 0 0] 26
   rwa [size_al, size_al, hs] at this
 have K3 : BlkAt W (s + 3) 29 #[.int .u8 5, .int .i64 0, .string ⟨#[]⟩, .slice (some ⟨s + 1, 0, none⟩) 1 1, .slice (some ⟨s + 2, 0, none⟩) 1 1, .slice none 0 0] := by
   have := blkAt_new (((w.alloc (.cells #[.int .u8 0, .int .i64 0, .string ⟨#[]⟩, .slice none 0 0, .slice none 0 0, .slice none 0 0] 29)).alloc (.cells #[.string ⟨#[97]⟩] 9)).alloc (.cells #[.int .u8 2, .int .i64 1, .string ⟨#[]⟩, .slice none 0 0, .slice none 0 0] 26)) #[.int .u8 5, .int .i64 0, .string ⟨#[]⟩, .slice (some ⟨s + 1, 0, none⟩) 1 1, .slice (some ⟨s + 2, 0, none⟩) 1 1, .slice none 0 0] 29
   rw [← hW, size_al, size_al, size_al, hs] at this
   exact this
 have hcell : ∀ {b : Nat} {T : TypeId} {cs : Array Value} (_ : BlkAt W b T cs) (_ : s + 1 ≤ b ∧ b ≠ s + 3) (i : Nat) (v : Value), cs[i]? = some v → (hidden (offB (s + 1) (some (s + 3))) W).cell? ⟨b, i, none⟩ = some v := fun hb hsb i v hv => (hidden_cell _ W _ v).2 ⟨offB_no.2 ⟨hsb.1, fun e => hsb.2 (Option.some.inj e).symm⟩, ⟨_, _, hb⟩, by rw [hb.cell i]; exact hv⟩
 have HV : Hid (ValAt (hidden (offB (s + 1) (some (s + 3))) W) exV (VC.val ⟨5, 0, ⟨#[]⟩, some ⟨s + 1, 0, none⟩, 1, 1, some ⟨s + 2, 0, none⟩, 1, 1⟩)) := by
   refine valAt_lit (by rfl) (strsAt_lit (by rfl) ?_) (itemsAt_lit (by rfl) ?_)
   · exact ⟨hcell K1 (by omega) 0 _ rfl, trivial⟩
   · exact rowAt_cons (valAt_leaf _ 2 1 ⟨#[]⟩ (by decide) (by decide) (by decide) (by decide) (by decide)) (hcell K2 (by omega) 0 _ rfl) (hcell K2 (by omega) 1 _ rfl) (hcell K2 (by omega) 2 _ rfl) (hcell K2 (by omega) 3 _ rfl) (hcell K2 (by omega) 4 _ rfl) (rowAt_nil _ _ _)
 have HK0 := Lib.hid K0
 have HK3 := Lib.hid K3
 have HBW := Lib.hid hbW
 have HW := Lib.hid hW
 obtain ⟨i0, hi, hz0, hz1, hz2⟩ := info_parts infoSig
 have HI := Lib.hid hi
 have HZ0 := Lib.hid hz0
 have HZ1 := Lib.hid hz1
 have HZ2 := Lib.hid hz2
 have HSS := Lib.hid hs
 clear K0 K1 K2 K3 hcell hbW hW hi hz0 hz1 hz2
 go_enter Tryz.func11, Tryz.ntmps11
 go_wp2_with fail
 rw [← HW.out]
 have HID : Hid (∀ Y, Calls Tryz.prog 12 #[.int .u8 97] Y fun e w' => e = .returned (.string (idText 97)) ∧ Below Y.heap.size Y w') := fun Y => id16_any 97 Y
 go_loopg [4] n (fun gk u wr => ∃ (j : Nat) (a : Option Addr) (c : Nat), gk = n - j ∧ u = .int .i64 j ∧ j ≤ n ∧ s + 4 ≤ wr.heap.size ∧ Hid (Below w.heap.size w wr) ∧ Hid (BlkAt wr (s + 3) 29 #[.int .u8 5, .int .i64 0, .string ⟨#[]⟩, .slice (some ⟨s + 1, 0, none⟩) 1 1, .slice (some ⟨s + 2, 0, none⟩) 1 1, .slice a j c]) ∧ Hid (wr.ownsRow (s + 4) 43 2 (.slice a j c) j (sgCells (List.replicate j exSig))) ∧ Hid (∀ k, k < s + 4 → k ≠ s + 3 → wr.heap[k]? = W.heap[k]?))
 case atStart => exact ⟨0, none, 0, rfl, rfl, Nat.zero_le _, by omega, HBW, HK3, World.ownsRow_nil _ _ _ _, fun k _ _ => rfl⟩
 case round =>
   obtain ⟨j, a, c, rfl, rfl, hj, hsz, HBr, HCr, HSr, HKr⟩ := hrel
   by_cases hjl : j < n
   · have hj0' : (0 : Int) ≤ (j : Int) := by omega
     have hj1' : (j : Int) < (n : Int) := by omega
     obtain ⟨-, -, -, -, -, q5, qf⟩ := b6' HCr.out
     go_wp2_with fail
     go_region_law (first
       | (refine step_append_lies _ (by rfl) _ _ _ (by rfl) (s + 4) 43 i0 _ 2 32 Tryz.underlying27 HI.out HZ0.out HZ1.out HZ2.out rfl (by omega) (.slice a j c) j (sgCells (List.replicate j exSig)) (by rfl) (World.ownsRow.alloc ho4 _) ⟨w4.heap.size, 0, none⟩ 1 1 [.string (idText 97), .string ⟨#[48, 48, 102, 102]⟩] (by rfl) (by rfl) (World.news_of_block (cs := #[.string (idText 97), .string ⟨#[48, 48, 102, 102]⟩]) (t := 43) (fr := (0, 0)) (heap_alloc_new w4 _)) (by intro u hu; simp only [List.mem_cons, List.not_mem_nil, or_false] at hu; rcases hu with rfl | rfl <;> rfl) (by omega) (by unfold maxLen; omega) (by omega) (by rw [size_al]; omega) (w4.heap.size + 1) (size_al _ _) ?_; intro gg cp' w6 hown6 hgrow hat hlt; have hc6 := ((BlkAt.keep HCr.out hb5).alloc (.cells #[.string (idText 97), .string ⟨#[48, 48, 102, 102]⟩] 43)).grown hgrow (fun e => by have := (World.ownsRow.lt ho4 _ e.symm).1; omega); obtain ⟨-, -, -, -, -, r5, rf⟩ := b6' hc6)
       | (go_simp; go_at_call 12; refine (HID.out _).mono ?_; rintro e w4 ⟨rfl, hb4⟩; have hb5 : Below wr.heap.size wr w4 := below_more (by (repeat (first | exact Below.refl _ _ | refine bel_drew ?_))) hb4; obtain ⟨-, -, -, -, -, p5, pf⟩ := b6' (BlkAt.keep HCr.out hb5); obtain ⟨-, -, -, -, -, s5, sf⟩ := b6' ((BlkAt.keep HCr.out hb5).alloc (.cells #[.string (idText 97), .string ⟨#[48, 48, 102, 102]⟩] 43)); have hz4 := hb5.size; have ho4 := ownsRow_keep HSr.out hb5))
     all_goals
       have hlow : ∀ k, k < s + 4 → (Value.slice a j c).ownBlock ≠ some k := fun k hk e => by have := (World.ownsRow.lt ho4 k e).1; omega
       have hkeep : ∀ k, k < w4.heap.size → (Value.slice a j c).ownBlock ≠ some k → w6.heap[k]? = w4.heap[k]? := fun k hk hne => (hgrow.block k (by rw [size_al]; omega) (fun e => hne e.symm)).trans ((bel_alloc (Below.refl _ w4) _).block k hk)
       have hb6 : Below w.heap.size w w6 := (bel_alloc (below_more HBr.out hb5) _).grown hgrow (by rw [size_al]; have := HBr.out.size; omega) (fun k hk => by have := (World.ownsRow.lt ho4 k hk).1; have := HSS.out; omega)
       have HB7 : Hid (Below w.heap.size w (w6.setCell ⟨s + 3, 5, none⟩ (.slice (some ⟨gg, 0, none⟩) (j + 1) cp'))) := bel_set hb6 (by show w.heap.size ≤ s + 3; have := HSS.out; omega) _
       have HC7 : Hid (BlkAt (w6.setCell ⟨s + 3, 5, none⟩ (.slice (some ⟨gg, 0, none⟩) (j + 1) cp')) (s + 3) 29 #[.int .u8 5, .int .i64 0, .string ⟨#[]⟩, .slice (some ⟨s + 1, 0, none⟩) 1 1, .slice (some ⟨s + 2, 0, none⟩) 1 1, .slice (some ⟨gg, 0, none⟩) (j + 1) cp']) := hc6.set 5 _
       have hgg : s + 4 ≤ gg := by
         rcases hown6.2 with ⟨e, -⟩ | ⟨g, cap, cur, e, hg, -⟩
         · cases e
         · cases e; exact hg
       have HS7 : Hid ((w6.setCell ⟨s + 3, 5, none⟩ (.slice (some ⟨gg, 0, none⟩) (j + 1) cp')).ownsRow (s + 4) 43 2 (.slice (some ⟨gg, 0, none⟩) (j + 1) cp') (j + 1) (sgCells (List.replicate (j + 1) exSig))) := by
         rw [List.replicate_succ', sgCells_snoc]
         exact row_far hown6 (fun e => by have e2 : s + 3 = gg := Option.some.inj e; omega) 5 _
       have HK7 : Hid (∀ k, k < s + 4 → k ≠ s + 3 → (w6.setCell ⟨s + 3, 5, none⟩ (.slice (some ⟨gg, 0, none⟩) (j + 1) cp')).heap[k]? = W.heap[k]?) := fun k hk hne =>
         (Below.heap_setCell _ _ _ _ hne).trans ((hkeep k (by omega) (hlow k hk)).trans ((hb5.block k (by omega)).trans (HKr.out k hk hne)))
       have hs7 : s + 4 ≤ (w6.setCell ⟨s + 3, 5, none⟩ (.slice (some ⟨gg, 0, none⟩) (j + 1) cp')).heap.size := by
         rw [setCell_size]
         have h1 := hgrow.size
         rw [size_al] at h1
         omega
       clear hown6 hgrow hat hlt hc6 hb6 ho4 hb4 hb5 hlow hkeep q5 qf p5 pf s5 sf r5 rf
       generalize w6.setCell ⟨s + 3, 5, none⟩ (.slice (some ⟨gg, 0, none⟩) (j + 1) cp') = w7 at HB7 HC7 HS7 HK7 hs7 ⊢
       go_wp2_with fail
       go_roundg (n - (j + 1))
       case rel => exact ⟨j + 1, _, cp', rfl, by go_num, by omega, hs7, HB7, HC7, HS7, HK7⟩
       case measure => omega
   · have hje : j = n := by omega
     subst hje
     have hj1' : ¬ (j : Int) < (j : Int) := by omega
     obtain ⟨x0, x1, x2, x3, x4, x5, xf⟩ := b6' HCr.out
     obtain ⟨z0, z1, z2, z3, z4, z5, zf⟩ := b6' ((HKr.out s (by omega) (by omega)).trans HK0.out : BlkAt wr s _ _)
     have hn1 : ¬ s = s + 3 := by omega
     have hn2 : ¬ s + 3 = s := by omega
     go_wp2_with fail
     have HS9 := row_far (row_far5 HSr.out (b := s) (fun e => by have := (World.ownsRow.lt HSr.out _ e.symm).1; omega) (.int .u8 5) (.int .i64 0) (.string ⟨#[]⟩) (.slice (some ⟨s + 1, 0, none⟩) 1 1) (.slice (some ⟨s + 2, 0, none⟩) 1 1)) (b := s) (fun e => by have := (World.ownsRow.lt HSr.out _ e.symm).1; omega) 5 (.slice a j c)
     have hsw : w.heap.size ≤ s := by have := HSS.out; omega
     refine bodyPost_ret (v := .agg #[.int .u8 5, .int .i64 0, .string ⟨#[]⟩, .slice (some ⟨s + 1, 0, none⟩) 1 1, .slice (some ⟨s + 2, 0, none⟩) 1 1, .slice a j c]) (by simp [results, Tryz.results11, go_sem, z0, z1, z2, z3, z4, z5]) rfl ⟨⟨5, 0, ⟨#[]⟩, some ⟨s + 1, 0, none⟩, 1, 1, some ⟨s + 2, 0, none⟩, 1, 1⟩, a, c, s + 4, rfl, bel_set (bel_set (bel_set (bel_set (bel_set (bel_set HBr.out hsw _) hsw _) hsw _) hsw _) hsw _) hsw _, by omega, ?_, HS9⟩
     rw [HSS.out]
     refine ValAt.carry HV.out fun k hk1 hk2 => ?_
     obtain ⟨h1, h2⟩ := offB_no.1 hk2
     have h3 : k ≠ s + 3 := fun e => h2 (by rw [e])
     have hk4 : k < s + 4 := by rw [← hsW]; exact hk1
     exact ⟨by rw [Bool.or_eq_false_iff, decide_eq_false_iff_not, decide_eq_false_iff_not]; omega, (heap_set6k _ _ _ _ _ _ _ _ _ (by omega)).trans (HKr.out k hk4 h3)⟩
theorem ex16_any (n : Nat) (hn : n ≤ 100) (w : World) :
   Calls Tryz.prog 11 #[.int .i64 n] w (ExPost n w) :=
 (ex16_own n hn w).mono fun e w' ⟨y, a, c, C, h1, h2, h3, h4, h5⟩ => by
   refine ⟨y, a, c, h1, h2, ValAt.carry h4 fun k _ hk2 => ⟨?_, rfl⟩, ?_⟩
   · rw [Bool.or_eq_false_iff, decide_eq_false_iff_not, decide_eq_false_iff_not] at hk2
     exact offB_none.2 (by omega)
   · have := sigsAt_own (C := w.heap.size) (l := List.replicate n exSig) (w := w') (v := .slice a n c) (by rw [List.length_replicate]; exact h5) (by omega)
     exact this
end Go.Proofs.YtmggmpigpiaagaaGreatDoor
