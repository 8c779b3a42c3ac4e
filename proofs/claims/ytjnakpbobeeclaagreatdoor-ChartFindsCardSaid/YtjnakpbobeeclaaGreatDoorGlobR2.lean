/-
 legateref18.Match, First; legateref25.Matches, For: the document's mappings for a path.
-/
import Derived.Test.YtjnakpbobeeclaaGreatDoorGlobR1
import Derived.Deep.OwnRows
import Derived.Shelf.Strings.FieldsFuncAny
namespace Go.Proofs.YtjnakpbobeeclaaGreatDoor
set_option maxRecDepth 100000
open Go.RowKit
theorem blkAt_newG (w : World) (cs : Array Value) (T : TypeId) : BlkAt (w.alloc (.cells cs T)) w.heap.size T cs := heap_alloc_new w _
theorem infoBool : (Tryz.prog.info? 4).map (fun i => (i.zero, i.size, i.bytes)) = some (some (.bool false), 1, 1) := by kernel_rfl
theorem infoI32 : (Tryz.prog.info? 21).map (fun i => (i.zero, i.size, i.bytes)) = some (some (.int .i32 0), 1, 4) := by kernel_rfl
theorem runeGo_at {s : ByteArray} {f pos : Nat} (h : pos < s.size) {c : Int} (hc : ((Utf8.decode s pos).1 : Int) = c) : runeGo s (f + 1) pos = c :: runeGo s f (pos + (Utf8.decode s pos).2) := by
 rw [runeGo, if_pos h]
 exact congrArg (· :: _) hc
theorem runeGo_end {s : ByteArray} {f pos : Nat} (h : ¬ pos < s.size) : runeGo s f pos = [] := by
 cases f with
 | zero => rfl
 | succ f => rw [runeGo, if_neg h]
theorem runesL_pos {s : ByteArray} (h : pathB s = true) : 0 < (runesL s).length := by
 unfold pathB at h
 simp only [Bool.and_eq_true, decide_eq_true_eq] at h
 obtain ⟨n, hn⟩ : ∃ n, s.size = n + 1 := ⟨s.size - 1, by omega⟩
 unfold runesL
 rw [hn, runeGo, if_pos (by omega)]
 simp
theorem row_cells {w : World} {B g n c : Nat} {L : List Int} (h : w.ownsRow B 21 1 (.slice (some ⟨g, 0, none⟩) n c) n (L.map (Value.int .i32))) : ∀ i x, L[i]? = some x → w.cell? ⟨g, i, none⟩ = some (.int .i32 x) := by
 intro i x hx
 have hadd : (⟨g, 0, none⟩ : Addr).add i = ⟨g, i, none⟩ := by unfold Addr.add; split <;> simp_all
 rw [← hadd]
 exact World.ownsRow.cells h rfl i _ (by rw [List.getElem?_map, hx]; rfl)
set_option maxHeartbeats 16000000 in
theorem match18_any (a p : ByteArray) (w : World) : Calls Tryz.prog 78 #[.string a, .string p] w fun e w' => e = .returned (.bool (hitB a p)) ∧ Below w.heap.size w w' := by
 have HP1 := Lib.hid (fun W => is18_any a W)
 have HP2 := Lib.hid (fun W => is18_any p W)
 unfold hitB
 cases h1 : pathB a with
 | false =>
   rw [h1] at HP1
   clear h1
   go_enter Tryz.func78, Tryz.ntmps78
   go_wp2_with fail
   refine (HP1.out _).mono ?_
   rintro e w2 ⟨rfl, hb⟩
   have HB := Lib.hid hb
   clear hb
   go_wp2_with fail
   go_ret
   exact ⟨rfl, HB.out⟩
 | true =>
   cases h2 : pathB p with
   | false =>
     rw [h1] at HP1
     rw [h2] at HP2
     clear h1 h2
     go_enter Tryz.func78, Tryz.ntmps78
     go_wp2_with fail
     refine (HP1.out _).mono ?_
     rintro e w2 ⟨rfl, hb⟩
     have HB := Lib.hid hb
     clear hb
     go_wp2_with fail
     refine (HP2.out _).mono ?_
     rintro e w3 ⟨rfl, hb⟩
     have HB2 := Lib.hid (below_more HB.out hb)
     clear hb
     go_wp2_with fail
     go_ret
     exact ⟨rfl, HB2.out⟩
   | true =>
     have z1 := pathB_size h1
     have l1 := runeGo_len a a.size 0
     have HL1 : Hid ((runesL a).length ≤ 256) := Nat.le_trans l1 z1
     have HL0 := Lib.hid (runesL_pos h1)
     rw [h1] at HP1
     rw [h2] at HP2
     obtain ⟨i0, hi, hz0, hz1, hz2⟩ := info_parts infoI32
     have HI := Lib.hid hi
     have HZ0 := Lib.hid hz0
     have HZ1 := Lib.hid hz1
     have HZ2 := Lib.hid hz2
     clear h1 h2 z1 l1 hi hz0 hz1 hz2
     go_enter Tryz.func78, Tryz.ntmps78
     go_wp2_with fail
     refine (HP1.out _).mono ?_
     rintro e w2 ⟨rfl, hb⟩
     have HB := Lib.hid hb
     clear hb
     go_wp2_with fail
     refine (HP2.out _).mono ?_
     rintro e w3 ⟨rfl, hb⟩
     have HB3 := Lib.hid (below_more HB.out hb)
     clear hb HB HP1 HP2
     go_wp2_with fail
     go_loopw [5] (fun pv wr => ∃ (pos fuel : Nat) (L : List Int) (va : Option Addr) (vn vc : Nat), pv = .slice va vn vc ∧ Hid (L.length = vn ∧ L ++ runeGo a fuel pos = runesL a ∧ a.size ≤ pos + fuel) ∧ Hid (wr.heap[w3.heap.size]? = some (.stringIter a pos)) ∧ Hid (wr.ownsRow w3.heap.size 21 1 (.slice va vn vc) vn (L.map (Value.int .i32))) ∧ Hid (Below w3.heap.size w3 wr)) (fun _ wr => a.size - wr.iterPos w3.heap.size)
     case atStart => exact ⟨0, a.size, [], none, 0, 0, rfl, ⟨rfl, rfl, by omega⟩, World.iter_heap w3 a 0, World.ownsRow_nil _ _ _ _, (Below.refl _ w3).alloc (Nat.le_refl _) _⟩
     case round =>
       obtain ⟨pos, fuel, L, va, vn, vc, rfl, HL, HIT, HO, HBW⟩ := hrel
       by_cases hp : pos < a.size
       · obtain ⟨f, rfl⟩ : ∃ f, fuel = f + 1 := ⟨fuel - 1, by have := HL.out.2.2; omega⟩
         obtain ⟨c, hc⟩ : ∃ c, ((Utf8.decode a pos).1 : Int) = c := ⟨_, rfl⟩
         have hwd := Lib.decode_width_pos a pos hp
         have hgo := runeGo_at (f := f) hp hc
         have hnx : ∀ ty, (Instr.next (.pointer (some ⟨w3.heap.size, 0, none⟩)) true ty).run Tryz.prog wr = _ := fun ty => Lib.run_next_any_at wr w3.heap.size a pos ty HIT.out hp
         have hit2 := Lib.iterAt_heap wr w3.heap.size a pos (pos + (Utf8.decode a pos).2) HIT.out
         have hbw2 := Lib.below_iterAt HBW.out (k := w3.heap.size) (by omega) a (pos + (Utf8.decode a pos).2)
         have hown2 := own_iterAt HO.out HIT.out (pos + (Utf8.decode a pos).2)
         rw [hc] at hnx
         obtain ⟨w4, hw4⟩ : ∃ y, y = wr.iterAt w3.heap.size a (pos + (Utf8.decode a pos).2) := ⟨_, rfl⟩
         rw [← hw4] at hnx hit2 hbw2 hown2
         obtain ⟨ps, hps⟩ : ∃ n, n = pos + (Utf8.decode a pos).2 := ⟨_, rfl⟩
         rw [← hps] at hgo hit2
         have hlen : vn < 256 := by
           have h1 := HL.out.2.1
           rw [hgo] at h1
           have h2 := congrArg List.length h1
           rw [List.length_append, List.length_cons, HL.out.1] at h2
           have := HL1.out
           omega
         have hnc : ∀ j u, [Value.int .i32 c][j]? = some u → (w4.alloc (.cells #[.int .i32 c] 21)).cell? ((⟨w4.heap.size, 0, none⟩ : Addr).add j) = some u := fun j u hj => by
           have hadd : (⟨w4.heap.size, 0, none⟩ : Addr).add j = ⟨w4.heap.size, j, none⟩ := by unfold Addr.add; split <;> simp_all
           rw [hadd, cell_al_eq _ _ _ _ _ rfl]
           simpa using hj
         have hm3 : w3.heap.size ≤ (w4.alloc (.cells #[.int .i32 c] 21)).heap.size := by rw [size_al]; have := hbw2.size; omega
         have HGO := Lib.hid hgo
         have HIT2 := Lib.hid hit2
         have HBW2 := Lib.hid hbw2
         have HO2 := Lib.hid (World.ownsRow.alloc hown2 (.cells #[.int .i32 c] 21))
         have HNE := Lib.hid (own_ne_iter hown2 hit2)
         have HNC := Lib.hid hnc
         have HM3 := Lib.hid hm3
         have HPS := Lib.hid hps
         clear hgo hit2 hbw2 hown2 hnc hm3 hw4 hc hps
         go_wp2_with (at_builtin; refine wpList_append_own_at _ rfl _ _ 136 rfl w3.heap.size 21 i0 (.int .i32 0) 1 4 Tryz.underlying136 HI.out HZ0.out HZ1.out HZ2.out rfl (by decide) _ _ _ rfl HO2.out ⟨_, 0, none⟩ 1 1 [.int .i32 c] rfl rfl HNC.out (by intro u hu; rw [List.mem_singleton.1 hu]; rfl) (by unfold maxLen; omega) (by omega) HM3.out ?_)
         intro v' w9 hown9 hgrow9 _ hat9
         obtain ⟨g9, p9, rfl, hg9, hg9'⟩ := World.ownsRow.form hown9 (by omega)
         have HO9 : Hid (w9.ownsRow w3.heap.size 21 1 (.slice (some ⟨g9, 0, none⟩) (vn + 1) p9) (vn + 1) ((L ++ [c]).map (Value.int .i32))) := by
           show World.ownsRow _ _ _ _ _ _ _
           rw [List.map_append]
           exact hown9
         have HB9 : Hid (Below w3.heap.size w3 w9) := (bel_alloc HBW2.out _).grown hgrow9 (by rw [size_al]; have := HBW2.out.size; omega) (fun k hk => (World.ownsRow.lt HO.out k hk).1)
         have hlt4 : w3.heap.size < w4.heap.size := (Array.getElem?_eq_some_iff.1 HIT2.out).1
         have HIT9 : Hid (w9.heap[w3.heap.size]? = some (.stringIter a ps)) := (hgrow9.block _ (by rw [size_al]; omega) HNE.out).trans (((bel_alloc (Below.refl _ w4) _).block _ hlt4).trans HIT2.out)
         have HL9 : Hid ((L ++ [c]).length = vn + 1 ∧ (L ++ [c]) ++ runeGo a f ps = runesL a ∧ a.size ≤ ps + f) := by
           obtain ⟨h1, h2, h3⟩ := HL.out
           refine ⟨by rw [List.length_append, h1]; rfl, ?_, by have := HPS.out; omega⟩
           rw [List.append_assoc, List.singleton_append, ← HGO.out]
           exact h2
         clear hown9 hgrow9 hat9 HO2 HNC HM3 HO
         go_wp2_with fail
         refine ⟨⟨ps, f, L ++ [c], some ⟨g9, 0, none⟩, vn + 1, p9, rfl, HL9, HIT9, HO9, HB9⟩, ?_⟩
         simp only [World.iterPos, HIT9.out, HIT.out]
         have := HPS.out
         omega
       · have hnx : ∀ ty, (Instr.next (.pointer (some ⟨w3.heap.size, 0, none⟩)) true ty).run Tryz.prog wr = _ := fun ty => Lib.run_next_end_at wr w3.heap.size a pos ty HIT.out hp
         obtain ⟨hl1, hl2, -⟩ := HL.out
         rw [runeGo_end hp, List.append_nil] at hl2
         subst hl2
         obtain ⟨P, hP⟩ : ∃ P, (runesL a).length = P := ⟨_, rfl⟩
         rw [hP] at hl1
         subst hl1
         obtain ⟨Q, hQ⟩ : ∃ Q, Q = P + 1 := ⟨_, rfl⟩
         have hP1 : P ≤ 256 := by rw [← hP]; exact HL1.out
         have hP0 : 0 < P := by rw [← hP]; exact HL0.out
         obtain ⟨g, cp, e, hg3, hgr⟩ := World.ownsRow.form HO.out hP0
         simp only [Value.slice.injEq] at e
         obtain ⟨rfl, -, rfl⟩ := e
         have hcells := row_cells HO.out
         obtain ⟨nb, hnb⟩ : ∃ n, n = wr.heap.size := ⟨_, rfl⟩
         obtain ⟨w5, hw5⟩ : ∃ y, y = wr.alloc (.cells (madeCells #[Value.bool false] Q) 4) := ⟨_, rfl⟩
         have hmk := run_make_row' (P := Tryz.prog) 137 4 (.bool false) 1 Tryz.underlying137 infoBool rfl .i64 .i64 Q (by omega) (by omega) wr
         rw [← hw5, ← hnb] at hmk
         have w1 : IntKind.i64.wrap ((P : Int) + 1) = (Q : Int) := by rw [IntWalk.i64_in _ (by omega)]; omega
         have hk5 : BlkAt w5 nb 4 (madeCells #[Value.bool false] Q) := by rw [hw5, hnb]; exact blkAt_newG wr _ _
         have hb5 : Below wr.heap.size wr w5 := by rw [hw5]; exact bel_alloc (Below.refl _ _) _
         have c0 : w5.cell? ⟨nb, 0, none⟩ = some (.bool false) := by rw [hk5.cell 0, (BoolRow.made Q).2 0 (by omega)]
         have f0 := hk5.free 0
         have q0 : (0 : Int) < (Q : Int) := by omega
         obtain ⟨w6, hw6⟩ : ∃ y, y = w5.setCell ⟨nb, 0, none⟩ (.bool true) := ⟨_, rfl⟩
         have hk6 : BlkAt w6 nb 4 ((madeCells #[Value.bool false] Q).setIfInBounds 0 (.bool true)) := by rw [hw6]; exact hk5.set 0 _
         have hr6 : BoolRow ((madeCells #[Value.bool false] Q).setIfInBounds 0 (.bool true)) Q gStart := ((BoolRow.made Q).set 0).congr fun i _ => by unfold gStart; rw [Bool.false_or]
         have hb6 : Below wr.heap.size wr w6 := by rw [hw6]; exact bel_set hb5 (by show wr.heap.size ≤ nb; omega) _
         have HB6 := Lib.hid (below_more HBW.out hb6)
         have hgnb : g ≠ nb := by omega
         have HON := Lib.hid (refOn_any (runesL a) gStart P Q nb g vc _ w6 hP hP1 hQ hk6 hr6 (fun i x hx => cell_keep hb6 (hcells i x hx)) hgnb)
         have HC6 : Hid (∀ i x, (runesL a)[i]? = some x → w6.cell? ⟨g, i, none⟩ = some (.int .i32 x)) := fun i x hx => cell_keep hb6 (hcells i x hx)
         have HW6 := Lib.hid hw6
         have HNB : Hid (w3.heap.size ≤ nb ∧ nb < w6.heap.size ∧ g < w6.heap.size) := ⟨by rw [hnb]; exact HBW.out.size, hk6.lt, by have := hb6.size; omega⟩
         have HPE := Lib.hid hP
         have HQE := Lib.hid hQ
         clear hcells hw5 hw6 hk5 hk6 hr6 hb5 hb6 hnb HO HIT HL hP hQ
         go_wp2_with fail
         rw [← HW6.out]
         clear hnx w1 q0
         refine HON.out.mono ?_
         rintro e w7 ⟨rfl, cs7, hk7, hr7, hg7⟩
         have HK7 := Lib.hid hk7
         have HR7 := Lib.hid hr7
         have HB7 : Hid (Below w3.heap.size w3 w7) := HB6.out.grown hg7 HB6.out.size (fun k hk => by have e2 : nb = k := Option.some.inj hk; have := HNB.out.1; omega)
         have HC7 : Hid (∀ i x, (runesL a)[i]? = some x → w7.cell? ⟨g, i, none⟩ = some (.int .i32 x)) := fun i x hx => grown_cell hg7 (HC6.out i x hx) (fun e => hgnb (Option.some.inj e))
         have HNB7 : Hid (w3.heap.size ≤ nb ∧ nb < w7.heap.size ∧ g < w7.heap.size) := ⟨HNB.out.1, HK7.out.lt, by have := hg7.size; have := HNB.out.2.2; omega⟩
         clear hk7 hr7 hg7 HON HC6 HNB HB6 HW6 c0 f0 hmk
         go_wp2_with fail
         obtain ⟨it, hit⟩ : ∃ n, n = w7.heap.size := ⟨_, rfl⟩
         have HIT8 : Hid ((w7.iter p 0).heap[it]? = some (.stringIter p 0)) := by rw [hit]; exact World.iter_heap w7 p 0
         have HITB : Hid (w3.heap.size ≤ it ∧ nb < it ∧ g < it) := ⟨by have := HB7.out.size; omega, by have := HNB7.out.2.1; omega, by have := HNB7.out.2.2; omega⟩
         have HK8 : Hid (BlkAt (w7.iter p 0) nb 4 cs7) := HK7.out.alloc _
         have hal : Below w7.heap.size w7 (w7.iter p 0) := (Below.refl _ _).alloc (Nat.le_refl _) _
         have HB8 : Hid (Below w3.heap.size w3 (w7.iter p 0)) := below_more HB7.out hal
         have HC8 : Hid (∀ i x, (runesL a)[i]? = some x → (w7.iter p 0).cell? ⟨g, i, none⟩ = some (.int .i32 x)) := fun i x hx => cell_keep hal (HC7.out i x hx)
         rw [← hit]
         generalize w7.iter p 0 = w8 at HIT8 HK8 HB8 HC8 ⊢
         have HGN := Lib.hid hgnb
         clear hal hit HK7 HB7 HC7 HNB7 hgnb
         go_loopw [8] (fun av wr2 => ∃ (pos fuel nb : Nat) (cr : Array Value) (F : Nat → Bool), av = .slice (some ⟨nb, 0, none⟩) Q Q ∧ Hid (gRun (runesL a) F (runeGo p fuel pos) P = gD (runesL a) (runesL p) ∧ p.size ≤ pos + fuel) ∧ Hid (wr2.heap[it]? = some (.stringIter p pos)) ∧ Hid (BlkAt wr2 nb 4 cr) ∧ Hid (BoolRow cr Q F) ∧ Hid (∀ i x, (runesL a)[i]? = some x → wr2.cell? ⟨g, i, none⟩ = some (.int .i32 x)) ∧ Hid (g ≠ nb) ∧ Hid (Below w3.heap.size w3 wr2)) (fun _ wr2 => p.size - wr2.iterPos it)
         case atStart => exact ⟨0, p.size, nb, cs7, gOn (runesL a) gStart, rfl, ⟨by rw [← HPE.out]; rfl, by omega⟩, HIT8, HK8, HR7, HC8, HGN, HB8⟩
         case round =>
           obtain ⟨pos2, fuel2, nb2, cr, F, rfl, HRU, HIT2, HK, HR, HC, HGB, HBX⟩ := hrel
           clear HIT8 HK8 HR7 HC8 HGN HB8
           by_cases hpp : pos2 < p.size
           · obtain ⟨f, rfl⟩ : ∃ f, fuel2 = f + 1 := ⟨fuel2 - 1, by have := HRU.out.2; omega⟩
             obtain ⟨r, hr⟩ : ∃ r, ((Utf8.decode p pos2).1 : Int) = r := ⟨_, rfl⟩
             have hwd := Lib.decode_width_pos p pos2 hpp
             have hgo := runeGo_at (f := f) hpp hr
             have hnx2 : ∀ ty, (Instr.next (.pointer (some ⟨it, 0, none⟩)) true ty).run Tryz.prog wr = _ := fun ty => Lib.run_next_any_at wr it p pos2 ty HIT2.out hpp
             have hit3 := Lib.iterAt_heap wr it p pos2 (pos2 + (Utf8.decode p pos2).2) HIT2.out
             have hbx3 := Lib.below_iterAt HBX.out (k := it) HITB.out.1 p (pos2 + (Utf8.decode p pos2).2)
             have hoth : ∀ k, k ≠ it → (wr.iterAt it p (pos2 + (Utf8.decode p pos2).2)).heap[k]? = wr.heap[k]? := fun k hk => Lib.iterAt_other wr it k p _ hk
             rw [hr] at hnx2
             obtain ⟨w9, hw9⟩ : ∃ y, y = wr.iterAt it p (pos2 + (Utf8.decode p pos2).2) := ⟨_, rfl⟩
             rw [← hw9] at hnx2 hit3 hbx3 hoth
             obtain ⟨ps, hps⟩ : ∃ n, n = pos2 + (Utf8.decode p pos2).2 := ⟨_, rfl⟩
             rw [← hps] at hgo hit3
             have hnbi : nb2 ≠ it := fun e => by have h1 := HK.out; have h2 := HIT2.out; rw [e] at h1; unfold BlkAt at h1; rw [h2] at h1; cases h1
             have hgi : g ≠ it := by have := HITB.out.2.2; omega
             have hk9 : BlkAt w9 nb2 4 cr := by unfold BlkAt; rw [hoth nb2 hnbi]; exact HK.out
             have hc9 : ∀ i x, (runesL a)[i]? = some x → w9.cell? ⟨g, i, none⟩ = some (.int .i32 x) := fun i x hx => by
               have := HC.out i x hx
               unfold World.cell? at this ⊢
               rw [hoth g hgi]
               exact this
             obtain ⟨mb, hmb⟩ : ∃ n, n = w9.heap.size := ⟨_, rfl⟩
             obtain ⟨w10, hw10⟩ : ∃ y, y = w9.alloc (.cells (madeCells #[Value.bool false] Q) 4) := ⟨_, rfl⟩
             have hmk := run_make_row' (P := Tryz.prog) 137 4 (.bool false) 1 Tryz.underlying137 infoBool rfl .i64 .i64 Q (by have := HQE.out; omega) (by have := HQE.out; omega) w9
             rw [← hw10, ← hmb] at hmk
             have hk10 : BlkAt w10 mb 4 (madeCells #[Value.bool false] Q) := by rw [hw10, hmb]; exact blkAt_newG w9 _ _
             have hb10 : Below w9.heap.size w9 w10 := by rw [hw10]; exact bel_alloc (Below.refl _ _) _
             have hil : it < w9.heap.size := (Array.getElem?_eq_some_iff.1 hit3).1
             have hgl : g < w9.heap.size := by have := HITB.out.2.2; omega
             have HMB : Hid (w3.heap.size ≤ mb ∧ nb2 < mb ∧ g < mb ∧ it < mb) := ⟨by have := hbx3.size; omega, by have := hk9.lt; omega, by omega, by omega⟩
             have HK10 := Lib.hid hk10
             have HA10 := Lib.hid (BlkAt.keep hk9 hb10)
             have HC10 : Hid (∀ i x, (runesL a)[i]? = some x → w10.cell? ⟨g, i, none⟩ = some (.int .i32 x)) := fun i x hx => cell_keep hb10 (hc9 i x hx)
             have HIT10 : Hid (w10.heap[it]? = some (.stringIter p ps)) := (hb10.block it hil).trans hit3
             have HB10 := Lib.hid (below_more hbx3 hb10)
             have HGO := Lib.hid hgo
             have HPS := Lib.hid hps
             have HR10 : Hid (BoolRow (madeCells #[Value.bool false] Q) Q (nextTo (runesL a) F r 0)) := (BoolRow.made Q).congr fun i _ => (nextTo_zero _ _ _ i).symm
             have w1 : IntKind.i64.wrap ((P : Int) + 1) = (Q : Int) := by rw [IntWalk.i64_in _ (by omega)]; have := HQE.out; omega
             clear hgo hit3 hbx3 hoth hw9 hps hk9 hc9 hmb hw10 hk10 hb10 hil hgl hr hnbi hgi
             go_wp2_with fail
             clear hnx2 hmk w1
             go_loopg [12] P (fun gk u wr => ∃ (k : Nat) (cx : Array Value), P - k = gk ∧ u = .int .i64 k ∧ k ≤ P ∧ Hid (BlkAt wr mb 4 cx) ∧ Hid (BoolRow cx Q (nextTo (runesL a) F r k)) ∧ Hid (w10.grownBy wr (some mb)))
             case atStart => exact ⟨0, _, rfl, rfl, Nat.zero_le _, HK10, HR10, World.grownBy.refl _ _⟩
             case round =>
               obtain ⟨k, cx, rfl, rfl, hk, HKX, HRX, HG⟩ := hrel
               clear HK10 HR10
               by_cases hlt : k < P
               · obtain ⟨x, hx⟩ : ∃ x, (runesL a)[k]? = some x := ⟨_, List.getElem?_eq_getElem (by rw [HPE.out]; exact hlt)⟩
                 have i0 : (0 : Int) ≤ (k : Int) := by omega
                 have i1 : (k : Int) < (P : Int) := by omega
                 have i2 : (k : Int) < (Q : Int) := by have := HQE.out; omega
                 have w1k : IntKind.i64.wrap ((k : Int) + 1) = ((k + 1 : Nat) : Int) := by rw [IntWalk.i64_in _ (by omega)]; omega
                 have i3 : (0 : Int) ≤ ((k + 1 : Nat) : Int) := by omega
                 have i4 : ((k + 1 : Nat) : Int) < (Q : Int) := by have := HQE.out; omega
                 have i5 : (0 : Int) ≤ (k : Int) + 1 := by omega
                 have i6 : (k : Int) + 1 < (Q : Int) := by have := HQE.out; omega
                 have a0 : wr.cell? ⟨nb2, k, none⟩ = some (.bool (F k)) := grown_cell HG.out (by rw [HA10.out.cell k, HR.out.2 k (by have := HQE.out; omega)]) (fun e => by have e2 := Option.some.inj e; have := HMB.out.2.1; omega)
                 have a1 : wr.cell? ⟨g, k, none⟩ = some (.int .i32 x) := grown_cell HG.out (HC10.out k x hx) (fun e => by have e2 := Option.some.inj e; have := HMB.out.2.2.1; omega)
                 have n0 : wr.cell? ⟨mb, k, none⟩ = some (.bool (nextTo (runesL a) F r k k)) := by rw [HKX.out.cell k, HRX.out.2 k (by have := HQE.out; omega)]
                 have n1 : wr.cell? ⟨mb, k + 1, none⟩ = some (.bool (nextTo (runesL a) F r k (k + 1))) := by rw [HKX.out.cell (k + 1), HRX.out.2 (k + 1) (by have := HQE.out; omega)]
                 have nf0 := HKX.out.free k
                 have nf1 := HKX.out.free (k + 1)
                 have hst := fun i => nextTo_step (a := F) (r := r) hx i
                 cases hF : F k with
                 | false =>
                   have HR2 : Hid (BoolRow cx Q (nextTo (runesL a) F r (k + 1))) := HRX.out.congr fun i _ => by rw [hst i, hF]; simp
                   rw [hF] at a0
                   clear hst hF hx n0 n1
                   go_wp2_with fail
                   go_roundg (P - (k + 1))
                   case rel => exact ⟨k + 1, cx, rfl, by go_num, by omega, HKX, HR2, HG⟩
                   case measure => omega
                 | true =>
                   rw [hF] at a0
                   by_cases h42 : x = 42
                   · have e1 : (x == 42) = true := beq_iff_eq.2 h42
                     have e1' : (x != 42) = false := by rw [bne, e1]; rfl
                     by_cases h47 : r = 47
                     · have e2 : (r != 47) = false := by rw [h47]; rfl
                       have HR2 : Hid (BoolRow cx Q (nextTo (runesL a) F r (k + 1))) := HRX.out.congr fun i _ => by rw [hst i, hF, e1', e2]; simp
                       clear hst hF hx n0 n1 h42 h47 e1'
                       go_wp2_with fail
                       go_roundg (P - (k + 1))
                       case rel => exact ⟨k + 1, cx, rfl, by go_num, by omega, HKX, HR2, HG⟩
                       case measure => omega
                     · have e2 : (r != 47) = true := bne_iff_ne.2 h47
                       have HR2 : Hid (BoolRow (cx.setIfInBounds k (.bool true)) Q (nextTo (runesL a) F r (k + 1))) := (HRX.out.set k).congr fun i _ => by rw [hst i, hF, e1, e1', e2]; simp
                       clear hst hF hx n1 h42 h47 e1'
                       go_wp2_with fail
                       go_roundg (P - (k + 1))
                       case rel => exact ⟨k + 1, _, rfl, by go_num, by omega, HKX.out.set k _, HR2, grown_set HG.out k _⟩
                       case measure => omega
                   · have e1 : (x == 42) = false := beq_eq_false_iff_ne.2 h42
                     have e1' : (x != 42) = true := bne_iff_ne.2 h42
                     have hone := gOne_ref x r
                     by_cases hxr : x = r
                     · have e2 : (x == r) = true := beq_iff_eq.2 hxr
                       rw [e2, Bool.true_or] at hone
                       have HR2 : Hid (BoolRow (cx.setIfInBounds (k + 1) (.bool true)) Q (nextTo (runesL a) F r (k + 1))) := (HRX.out.set (k + 1)).congr fun i _ => by rw [hst i, hF, e1, e1', hone]; simp
                       clear hst hF hx n0 h42 hxr e1' hone
                       go_wp2_with fail
                       go_roundg (P - (k + 1))
                       case rel => exact ⟨k + 1, _, rfl, by go_num, by omega, HKX.out.set (k + 1) _, HR2, grown_set HG.out (k + 1) _⟩
                       case measure => omega
                     · have e2 : (x == r) = false := beq_eq_false_iff_ne.2 hxr
                       rw [e2, Bool.false_or] at hone
                       by_cases h63 : x = 63
                       · have e3 : (x == 63) = true := beq_iff_eq.2 h63
                         rw [e3, Bool.true_and] at hone
                         by_cases h47 : r = 47
                         · have e4 : (r != 47) = false := by rw [h47]; rfl
                           rw [e4] at hone
                           have HR2 : Hid (BoolRow cx Q (nextTo (runesL a) F r (k + 1))) := HRX.out.congr fun i _ => by rw [hst i, hF, e1, hone]; simp
                           clear hst hF hx n0 n1 h42 hxr e1' hone h63 h47
                           go_wp2_with fail
                           go_roundg (P - (k + 1))
                           case rel => exact ⟨k + 1, cx, rfl, by go_num, by omega, HKX, HR2, HG⟩
                           case measure => omega
                         · have e4 : (r != 47) = true := bne_iff_ne.2 h47
                           rw [e4] at hone
                           have HR2 : Hid (BoolRow (cx.setIfInBounds (k + 1) (.bool true)) Q (nextTo (runesL a) F r (k + 1))) := (HRX.out.set (k + 1)).congr fun i _ => by rw [hst i, hF, e1, e1', hone]; simp
                           clear hst hF hx n0 h42 hxr e1' hone h63 h47
                           go_wp2_with fail
                           go_roundg (P - (k + 1))
                           case rel => exact ⟨k + 1, _, rfl, by go_num, by omega, HKX.out.set (k + 1) _, HR2, grown_set HG.out (k + 1) _⟩
                           case measure => omega
                       · have e3 : (x == 63) = false := beq_eq_false_iff_ne.2 h63
                         rw [e3, Bool.false_and] at hone
                         have HR2 : Hid (BoolRow cx Q (nextTo (runesL a) F r (k + 1))) := HRX.out.congr fun i _ => by rw [hst i, hF, e1, hone]; simp
                         clear hst hF hx n0 n1 h42 hxr e1' hone h63
                         go_wp2_with fail
                         go_roundg (P - (k + 1))
                         case rel => exact ⟨k + 1, cx, rfl, by go_num, by omega, HKX, HR2, HG⟩
                         case measure => omega
               · obtain rfl : k = P := by omega
                 have i1 : ¬ (k : Int) < (k : Int) := by omega
                 have hrn : BoolRow cx Q (gNext (runesL a) F r) := HRX.out.congr fun i _ => by have := nextTo_all (runesL a) F r i; rw [HPE.out] at this; exact this
                 have hcx : ∀ i x, (runesL a)[i]? = some x → wr.cell? ⟨g, i, none⟩ = some (.int .i32 x) := fun i x hx => grown_cell HG.out (HC10.out i x hx) (fun e => by have e2 := Option.some.inj e; have := HMB.out.2.2.1; omega)
                 have HON := Lib.hid (refOn_any (runesL a) (gNext (runesL a) F r) k Q mb g vc cx wr HPE.out hP1 HQE.out HKX.out hrn hcx (by have := HMB.out.2.2.1; omega))
                 have HCX := Lib.hid hcx
                 have HBXX : Hid (Below w3.heap.size w3 wr) := HB10.out.grown HG.out HB10.out.size (fun q hq => by have e2 : mb = q := Option.some.inj hq; have := HMB.out.1; omega)
                 have HITX : Hid (wr.heap[it]? = some (.stringIter p ps)) := (HG.out.block it (Array.getElem?_eq_some_iff.1 HIT10.out).1 (fun e => by have e2 := Option.some.inj e; have := HMB.out.2.2.2; omega)).trans HIT10.out
                 clear hrn hcx HKX HRX HG
                 go_wp2_with fail
                 refine HON.out.mono ?_
                 rintro e w12 ⟨rfl, cs12, hk12, hr12, hg12⟩
                 have HK12 := Lib.hid hk12
                 have HR12 := Lib.hid hr12
                 have HB12 : Hid (Below w3.heap.size w3 w12) := HBXX.out.grown hg12 HBXX.out.size (fun q hq => by have e2 : mb = q := Option.some.inj hq; have := HMB.out.1; omega)
                 have HC12 : Hid (∀ i x, (runesL a)[i]? = some x → w12.cell? ⟨g, i, none⟩ = some (.int .i32 x)) := fun i x hx => grown_cell hg12 (HCX.out i x hx) (fun e => by have e2 := Option.some.inj e; have := HMB.out.2.2.1; omega)
                 have HIT12 : Hid (w12.heap[it]? = some (.stringIter p ps)) := (hg12.block it (Array.getElem?_eq_some_iff.1 HITX.out).1 (fun e => by have e2 := Option.some.inj e; have := HMB.out.2.2.2; omega)).trans HITX.out
                 have HRU2 : Hid (gRun (runesL a) (gOn (runesL a) (gNext (runesL a) F r)) (runeGo p f ps) k = gD (runesL a) (runesL p) ∧ p.size ≤ ps + f) := by
                   obtain ⟨h1, h2⟩ := HRU.out
                   rw [HGO.out, gRun] at h1
                   exact ⟨h1, by have := HPS.out; omega⟩
                 have HGM : Hid (g ≠ mb) := by show g ≠ mb; have := HMB.out.2.2.1; omega
                 clear hk12 hr12 hg12 HON HCX HBXX HITX
                 go_wp2_with fail
                 refine ⟨⟨ps, f, mb, cs12, _, rfl, HRU2, HIT12, HK12, HR12, HC12, HGM, HB12⟩, ?_⟩
                 simp only [World.iterPos, HIT12.out, HIT2.out]
                 have := HPS.out
                 omega
           · have hnx2 : ∀ ty, (Instr.next (.pointer (some ⟨it, 0, none⟩)) true ty).run Tryz.prog wr = _ := fun ty => Lib.run_next_end_at wr it p pos2 ty HIT2.out hpp
             have hres : F P = gM (runesL a) (runesL p) := by
               have h1 := HRU.out.1
               rw [runeGo_end hpp, gRun, gD_is] at h1
               exact h1
             have c1 : wr.cell? ⟨nb2, P, none⟩ = some (.bool (F P)) := by rw [HK.out.cell P, HR.out.2 P (by have := HQE.out; omega)]
             rw [hres] at c1
             have i0 : (0 : Int) ≤ (P : Int) := by omega
             have i1 : (P : Int) < (Q : Int) := by have := HQE.out; omega
             clear hres
             go_wp2_with fail
             go_ret
             exact ⟨by simp, below_more HB3.out HBX.out⟩
end Go.Proofs.YtjnakpbobeeclaaGreatDoor
