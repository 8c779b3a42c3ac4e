/-
  legateref05.said: what is said behind a backslash and a u, by the document's words.
  legateref05.escape: the rune that is said behind a backslash, by the document's words.
  legateref05.Read: the string that begins at a place of a text, by the document's words.
-/
import Derived.Test.YtmggmpigpiaagaaGreatDoorRefPut
import Derived.RegionTactic
import Derived.Deep.RegionHeld3
import Derived.IntWalk
namespace Go.Proofs.YtmggmpigpiaagaaGreatDoor
section
set_option maxRecDepth 100000
open Go.RowKit
set_option maxHeartbeats 4000000 in
theorem refSaid_any (s : ByteArray) (a : Nat) (w : World) (hs : s.size ≤ 281474976710656) (ha : a ≤ s.size) (r1 r2 r3 : Int) (hr : Hid (codedR a (s.data.toList.drop a) = (r1, r2, r3))) :
   Calls Tryz.prog 142 #[.string s, .int .i64 a] w fun e w' => e = .returned (.tuple #[.int .i64 r1, .int .i64 r2, .int .i64 r3]) ∧ Below w.heap.size w w' := by
 obtain ⟨n, e, hf⟩ : ∃ n e, fourP (s.data.toList.drop a) = (n, e) := ⟨_, _, rfl⟩
 have HC := Lib.hid (fun W' => refNumber_any s a W' hs ha n e hf)
 have hR := hr.out
 unfold codedR codedP at hR
 rw [hf] at hR
 simp only [] at hR
 have HF := Lib.hid hf
 clear hf hr
 by_cases he : e = 0
 · subst he
   simp only [ne_eq, not_true_eq_false, if_false] at hR
   have hbd := fourP_bd (s.data.toList.drop a) (by rw [HF.out])
   rw [HF.out, List.length_drop, size_len] at hbd
   simp only [] at hbd
   obtain ⟨n0, n1, hl4⟩ := hbd
   by_cases h1 : n < 55296 ∨ 57343 < n
   · rw [if_pos h1] at hR
     simp only [not_true_eq_false, if_false, Prod.mk.injEq] at hR
     obtain ⟨rfl, h2, rfl⟩ := hR
     have H2 := Lib.hid h2
     clear h2
     by_cases h3 : n < 55296
     · go_enter Tryz.func142, Tryz.ntmps142
       go_wp2_with fail
       refine (HC.out _).mono ?_
       rintro e w2 ⟨rfl, rfl⟩
       go_wp2_with fail
       go_ret3
       exact ⟨ret3i rfl (by rw [← H2.out]; rfl) rfl, Below.refl _ _⟩
     · have h4 : 57343 < n := by omega
       clear h1
       go_enter Tryz.func142, Tryz.ntmps142
       go_wp2_with fail
       refine (HC.out _).mono ?_
       rintro e w2 ⟨rfl, rfl⟩
       go_wp2_with fail
       go_ret3
       exact ⟨ret3i rfl (by rw [← H2.out]; rfl) rfl, Below.refl _ _⟩
   · rw [if_neg h1] at hR
     have k1 : ¬ n < 55296 := by omega
     have k2 : ¬ 57343 < n := by omega
     clear h1
     by_cases h3 : 56320 ≤ n
     · rw [if_pos h3] at hR
       obtain ⟨rfl, rfl, rfl⟩ := resP_bad (a := a) (by decide) hR
       go_enter Tryz.func142, Tryz.ntmps142
       go_wp2_with fail
       refine (HC.out _).mono ?_
       rintro e w2 ⟨rfl, rfl⟩
       go_wp2_with fail
       go_ret3
       exact ⟨rfl, Below.refl _ _⟩
     · rw [if_neg h3] at hR
       rw [List.drop_drop] at hR
       have HR : Hid (resP a (pairG n 0 (s.data.toList.drop (a + 4 + 0))) = (r1, r2, r3)) := hR
       clear hR
       go_enter Tryz.func142, Tryz.ntmps142
       go_wp2_with fail
       refine (HC.out _).mono ?_
       rintro e w2 ⟨rfl, rfl⟩
       go_wp2_with fail
       go_loopw [9] (fun i wr => ∃ j : Nat, j ≤ 2 ∧ i = .int .i64 j ∧ a + 4 + j ≤ s.size ∧ Hid (resP a (pairG n j (s.data.toList.drop (a + 4 + j))) = (r1, r2, r3)) ∧ Below w.heap.size w wr) (fun i _ => 2 - (intOf i).toNat)
       case atStart => exact ⟨0, by omega, rfl, by omega, HR, Below.refl _ _⟩
       case round =>
         obtain ⟨j, hj, rfl, hq, HQ, hBr⟩ := hrel
         clear HR
         by_cases hj2 : j = 2
         · subst hj2
           have hpe : resP a (pairE n (s.data.toList.drop (a + 4 + 2))) = (r1, r2, r3) := HQ.out
           obtain ⟨m, f, hf2⟩ : ∃ m f, fourP (s.data.toList.drop (a + 4 + 2)) = (m, f) := ⟨_, _, rfl⟩
           have hbd := fourP_bd (s.data.toList.drop (a + 4 + 2))
           rw [hf2, List.length_drop, size_len] at hbd
           have HC2 := Lib.hid (fun W' => refNumber_any s (a + 4 + 2) W' hs hq m f hf2)
           unfold pairE at hpe
           rw [hf2] at hpe
           simp only [] at hpe hbd
           have HBD := Lib.hid hbd
           clear hbd hf2 HQ
           by_cases hf0 : f = 0
           · subst hf0
             obtain ⟨m0, m1, m2⟩ := HBD.out rfl
             simp only [ne_eq, not_true_eq_false, if_false] at hpe
             by_cases hm : m < 56320 ∨ 57343 < m
             · rw [if_pos hm] at hpe
               obtain ⟨rfl, rfl, rfl⟩ := resP_bad (by decide) hpe
               have hmm : m < 56320 ∨ (¬ m < 56320 ∧ 57343 < m) := by omega
               clear hm hpe
               rcases hmm with hm | ⟨hm, hm2⟩
               all_goals
                 go_wp2_with fail
                 refine (HC2.out _).mono ?_
                 rintro e w3 ⟨rfl, rfl⟩
                 go_wp2_with fail
                 go_ret3
                 exact ⟨rfl, hBr⟩
             · rw [if_neg hm] at hpe
               unfold resP at hpe
               simp only [ne_eq, not_true_eq_false, if_false, Prod.mk.injEq] at hpe
               obtain ⟨e1, e2, rfl⟩ := hpe
               have m3 : ¬ m < 56320 := by omega
               have m4 : ¬ 57343 < m := by omega
               have HE1 := Lib.hid e1
               have HE2 := Lib.hid e2
               clear hm e1 e2
               go_wp2_with fail
               refine (HC2.out _).mono ?_
               rintro e w3 ⟨rfl, rfl⟩
               go_wp2_with fail
               go_ret3
               refine ⟨ret3i ?_ ?_ rfl, hBr⟩
               · have := HE1.out; omega
               · have := HE2.out; omega
           · rw [if_pos hf0] at hpe
             obtain ⟨rfl, rfl, rfl⟩ := resP_bad hf0 hpe
             have hfb : (r3 != 0) = true := by simp [hf0]
             clear hf0 hpe
             go_wp2_with fail
             refine (HC2.out _).mono ?_
             rintro e w3 ⟨rfl, rfl⟩
             go_wp2_with fail
             go_ret3
             exact ⟨rfl, hBr⟩
         · by_cases hqs : a + 4 + j < s.size
           · have hdr := drop_at hqs
             have hj01 : j = 0 ∨ j = 1 := by omega
             have hst := HQ.out
             rw [hdr] at hst
             clear hdr HQ
             rcases hj01 with rfl | rfl
             · have e0 : IntKind.i64.wrap ((a : Int) + 4) = (a : Int) + 4 := IntWalk.i64_in _ (by omega)
               have e1 : 0 ≤ (a : Int) + 4 := by omega
               have e2 : (a : Int) + 4 < (s.size : Int) := by omega
               have e3 : ((a : Int) + 4).toNat = a + 4 := by omega
               by_cases hc : s[a + 4].toNat = 92
               · have hcb : ((s[a + 4].toNat : Int) != 92) = false := by rw [hc]; rfl
                 have hst2 := hst
                 rw [pairG, pairP, if_neg (fun hn => hn hc)] at hst2
                 have HST := Lib.hid hst2
                 clear hst hst2 hc hj2
                 go_wp2_with fail
                 go_region
                 all_goals go_wp2_with fail
                 all_goals exact ⟨⟨1, by omega, rfl, by omega, HST, (by first | exact bel_drew (bel_alloc hBr _) | exact bel_alloc (bel_drew hBr) _)⟩, by simp [intOf]⟩
               · have hcb : ((s[a + 4].toNat : Int) != 92) = true := by rw [bne_iff_ne]; omega
                 rw [pairG, pairP, if_pos hc] at hst
                 obtain ⟨rfl, rfl, rfl⟩ := resP_bad (by decide) hst
                 clear hst hc hj2
                 go_wp2_with fail
                 go_region
                 all_goals go_wp2_with fail
                 all_goals go_ret3
                 all_goals exact ⟨rfl, (by first | exact bel_drew (bel_alloc hBr _) | exact bel_alloc (bel_drew hBr) _)⟩
             · have e0 : IntKind.i64.wrap ((a : Int) + 4 + 1) = (a : Int) + 4 + 1 := IntWalk.i64_in _ (by omega)
               have e1 : 0 ≤ (a : Int) + 4 + 1 := by omega
               have e2 : (a : Int) + 4 + 1 < (s.size : Int) := by omega
               have e3 : ((a : Int) + 4 + 1).toNat = a + 4 + 1 := by omega
               by_cases hc : s[a + 4 + 1].toNat = 117
               · have hcb : ((s[a + 4 + 1].toNat : Int) != 117) = false := by rw [hc]; rfl
                 have hst2 := hst
                 rw [pairG, pairQ, if_neg (fun hn => hn hc)] at hst2
                 have HST := Lib.hid hst2
                 clear hst hst2 hc hj2
                 go_wp2_with fail
                 go_region
                 all_goals go_wp2_with fail
                 all_goals exact ⟨⟨2, by omega, rfl, by omega, HST, (by first | exact bel_drew (bel_alloc hBr _) | exact bel_alloc (bel_drew hBr) _)⟩, by simp [intOf]⟩
               · have hcb : ((s[a + 4 + 1].toNat : Int) != 117) = true := by rw [bne_iff_ne]; omega
                 rw [pairG, pairQ, if_pos hc] at hst
                 obtain ⟨rfl, rfl, rfl⟩ := resP_bad (by decide) hst
                 clear hst hc hj2
                 go_wp2_with fail
                 go_region
                 all_goals go_wp2_with fail
                 all_goals go_ret3
                 all_goals exact ⟨rfl, (by first | exact bel_drew (bel_alloc hBr _) | exact bel_alloc (bel_drew hBr) _)⟩
           · have hst := HQ.out
             rw [drop_none (by omega)] at hst
             have hj01 : j = 0 ∨ j = 1 := by omega
             rcases hj01 with rfl | rfl
             all_goals
               obtain ⟨rfl, rfl, rfl⟩ := resP_bad (by decide) hst
               clear hst HQ hj2
               go_wp2_with fail
               go_ret3
               exact ⟨rfl, hBr⟩
 · rw [if_pos he] at hR
   simp only [he, ne_eq, not_false_eq_true, if_true, Prod.mk.injEq] at hR
   obtain ⟨rfl, rfl, rfl⟩ := hR
   have heb : (e != 0) = true := by simp [he]
   clear he
   go_enter Tryz.func142, Tryz.ntmps142
   go_wp2_with fail
   refine (HC.out _).mono ?_
   rintro e w2 ⟨rfl, rfl⟩
   go_wp2_with fail
   go_ret3
   exact ⟨rfl, Below.refl _ _⟩
end

section
set_option maxRecDepth 100000
open Go.RowKit
def escLR : List (Nat × Int) := [(34, 34), (92, 92), (47, 47), (98, 8), (102, 12), (110, 10), (114, 13), (116, 9)]
def escFind : List (Nat × Int) → Nat → Int
 | [], _ => -1
 | (a, v) :: r, c => if c = a then v else escFind r c
theorem escV_find (c : UInt8) : escFind escLR c.toNat = escV c := by
 unfold escV escLR
 simp only [escFind]
 by_cases h1 : c.toNat = 34
 · rw [if_pos h1, if_pos (by omega), h1]; rfl
 · rw [if_neg h1]
   by_cases h2 : c.toNat = 92
   · rw [if_pos h2, if_pos (by omega), h2]; rfl
   · rw [if_neg h2]
     by_cases h3 : c.toNat = 47
     · rw [if_pos h3, if_pos (by omega), h3]; rfl
     · rw [if_neg h3, if_neg (show ¬ (c.toNat = 34 ∨ c.toNat = 92 ∨ c.toNat = 47) by omega)]
theorem resP_ok {a k : Nat} {v r1 r2 r3 : Int} (h : resP a (v, k, 0) = (r1, r2, r3)) : r1 = v ∧ r2 = (a : Int) + k ∧ r3 = 0 := by
 unfold resP at h
 simp only [ne_eq, not_true_eq_false, if_false, Prod.mk.injEq] at h
 exact ⟨h.1.symm, h.2.1.symm, h.2.2.symm⟩
theorem resP_esc (a : Nat) (r : List UInt8) : resP a (if (codedP r).2.2 ≠ 0 then (0, 0, (codedP r).2.2) else ((codedP r).1, (codedP r).2.1 + 1, 0)) = codedR (a + 1) r := by
 unfold resP codedR
 by_cases h : (codedP r).2.2 ≠ 0
 · simp only [if_pos h]
 · simp only [if_neg h, ne_eq, not_true_eq_false, if_false, Prod.mk.injEq, true_and, and_true]
   omega
def escF (k : Nat) (c : UInt8) : Int := escFind (escLR.drop k) c.toNat
set_option maxHeartbeats 4000000 in
theorem refEscape_any (s : ByteArray) (a : Nat) (w : World) (hs : s.size ≤ 281474976710656) (ha : a ≤ s.size) (r1 r2 r3 : Int) (hr : Hid (resP a (escP (s.data.toList.drop a)) = (r1, r2, r3))) :
   Calls Tryz.prog 120 #[.string s, .int .i64 a] w fun e w' => e = .returned (.tuple #[.int .i64 r1, .int .i64 r2, .int .i64 r3]) ∧ Below w.heap.size w w' := by
 by_cases hlt : a < s.size
 · have h := hr.out
   rw [drop_at hlt, escP] at h
   by_cases hu : s[a].toNat = 117
   · rw [if_pos hu, resP_esc] at h
     have HC := Lib.hid (fun W => refSaid_any s (a + 1) W hs (by omega) r1 r2 r3 h)
     have hub : ((s[a].toNat : Int) == 117) = true := by rw [hu]; rfl
     clear h hr hu
     go_enter Tryz.func120, Tryz.ntmps120
     go_wp2_with fail
     refine (HC.out _).mono ?_
     rintro e w2 ⟨rfl, hb2⟩
     go_wp2_with fail
     go_ret3
     exact ⟨rfl, hb2⟩
   · rw [if_neg hu] at h
     have hub : ((s[a].toNat : Int) == 117) = false := beq_eq_false_iff_ne.2 (by omega)
     have hf0 := escV_find s[a]
     have HF0 : Hid (escF 0 s[a] = escV s[a]) := hf0
     obtain ⟨v, hv⟩ : ∃ v, escV s[a] = v := ⟨_, rfl⟩
     rw [hv] at h HF0
     have HH := Lib.hid h
     have hai : (a : Int) < (s.size : Int) := by omega
     have hai0 : (0 : Int) ≤ (a : Int) := by omega
     clear h hr hu hf0 hv
     go_enter Tryz.func120, Tryz.ntmps120
     go_wp2_with fail
     have hal : Below w.heap.size w (w.alloc (.cells #[.int .i64 34, .int .i64 92, .int .i64 47, .int .i64 8, .int .i64 12, .int .i64 10, .int .i64 13, .int .i64 9] 3)) := bel_alloc (Below.refl _ _) _
     have hcs := fun i => cell_al_eq w #[.int .i64 34, .int .i64 92, .int .i64 47, .int .i64 8, .int .i64 12, .int .i64 10, .int .i64 13, .int .i64 9] 3 w.heap.size i rfl
     have hsz : w.heap.size < (w.alloc (.cells #[.int .i64 34, .int .i64 92, .int .i64 47, .int .i64 8, .int .i64 12, .int .i64 10, .int .i64 13, .int .i64 9] 3)).heap.size := by rw [size_al]; omega
     generalize w.alloc (.cells #[.int .i64 34, .int .i64 92, .int .i64 47, .int .i64 8, .int .i64 12, .int .i64 10, .int .i64 13, .int .i64 9] 3) = w1 at hal hcs hsz ⊢
     have HCS := Lib.hid hcs
     clear hcs
     go_loopw [9] (fun i wr => ∃ j : Nat, j ≤ 8 ∧ i = .int .i64 j ∧ Hid (escF j s[a] = v) ∧ Below w1.heap.size w1 wr) (fun i _ => 8 - (intOf i).toNat)
     case atStart => exact ⟨0, by omega, rfl, HF0, Below.refl _ _⟩
     case round =>
       obtain ⟨j, hj, rfl, HQ, hBr⟩ := hrel
       clear HF0
       have hj8 : j = 0 ∨ j = 1 ∨ j = 2 ∨ j = 3 ∨ j = 4 ∨ j = 5 ∨ j = 6 ∨ j = 7 ∨ j = 8 := by omega
       rcases hj8 with rfl | rfl | rfl | rfl | rfl | rfl | rfl | rfl | rfl
       · have hq : (if s[a].toNat = 34 then (34 : Int) else escF 1 s[a]) = v := HQ.out
         have hk : ((⟨#[34, 92, 47, 98, 102, 110, 114, 116]⟩ : ByteArray)[0]'(by decide)).toNat = 34 := rfl
         by_cases hc : s[a].toNat = 34
         · rw [if_pos hc] at hq
           subst hq
           obtain ⟨rfl, rfl, rfl⟩ := resP_ok HH.out
           clear HQ HH
           have hcell : wr.cell? ⟨w.heap.size, 0, none⟩ = some (.int .i64 34) := by rw [(bcell hBr).1 _ _ hsz]; exact HCS.out 0
           go_wp2_with fail
           go_region
           all_goals go_wp2_with fail
           all_goals go_ret3
           all_goals exact ⟨rfl, below_more hal (bel_drew hBr)⟩
         · rw [if_neg hc] at hq
           have HST := Lib.hid hq
           have hcb : ((s[a].toNat : Int) == 34) = false := beq_eq_false_iff_ne.2 (by omega)
           clear HQ hq hc
           go_wp2_with fail
           go_region
           all_goals go_wp2_with fail
           all_goals exact ⟨⟨1, by omega, rfl, HST, bel_drew hBr⟩, by simp [intOf]⟩
       · have hq : (if s[a].toNat = 92 then (92 : Int) else escF 2 s[a]) = v := HQ.out
         have hk : ((⟨#[34, 92, 47, 98, 102, 110, 114, 116]⟩ : ByteArray)[1]'(by decide)).toNat = 92 := rfl
         by_cases hc : s[a].toNat = 92
         · rw [if_pos hc] at hq
           subst hq
           obtain ⟨rfl, rfl, rfl⟩ := resP_ok HH.out
           clear HQ HH
           have hcell : wr.cell? ⟨w.heap.size, 1, none⟩ = some (.int .i64 92) := by rw [(bcell hBr).1 _ _ hsz]; exact HCS.out 1
           go_wp2_with fail
           go_region
           all_goals go_wp2_with fail
           all_goals go_ret3
           all_goals exact ⟨rfl, below_more hal (bel_drew hBr)⟩
         · rw [if_neg hc] at hq
           have HST := Lib.hid hq
           have hcb : ((s[a].toNat : Int) == 92) = false := beq_eq_false_iff_ne.2 (by omega)
           clear HQ hq hc
           go_wp2_with fail
           go_region
           all_goals go_wp2_with fail
           all_goals exact ⟨⟨2, by omega, rfl, HST, bel_drew hBr⟩, by simp [intOf]⟩
       · have hq : (if s[a].toNat = 47 then (47 : Int) else escF 3 s[a]) = v := HQ.out
         have hk : ((⟨#[34, 92, 47, 98, 102, 110, 114, 116]⟩ : ByteArray)[2]'(by decide)).toNat = 47 := rfl
         by_cases hc : s[a].toNat = 47
         · rw [if_pos hc] at hq
           subst hq
           obtain ⟨rfl, rfl, rfl⟩ := resP_ok HH.out
           clear HQ HH
           have hcell : wr.cell? ⟨w.heap.size, 2, none⟩ = some (.int .i64 47) := by rw [(bcell hBr).1 _ _ hsz]; exact HCS.out 2
           go_wp2_with fail
           go_region
           all_goals go_wp2_with fail
           all_goals go_ret3
           all_goals exact ⟨rfl, below_more hal (bel_drew hBr)⟩
         · rw [if_neg hc] at hq
           have HST := Lib.hid hq
           have hcb : ((s[a].toNat : Int) == 47) = false := beq_eq_false_iff_ne.2 (by omega)
           clear HQ hq hc
           go_wp2_with fail
           go_region
           all_goals go_wp2_with fail
           all_goals exact ⟨⟨3, by omega, rfl, HST, bel_drew hBr⟩, by simp [intOf]⟩
       · have hq : (if s[a].toNat = 98 then (8 : Int) else escF 4 s[a]) = v := HQ.out
         have hk : ((⟨#[34, 92, 47, 98, 102, 110, 114, 116]⟩ : ByteArray)[3]'(by decide)).toNat = 98 := rfl
         by_cases hc : s[a].toNat = 98
         · rw [if_pos hc] at hq
           subst hq
           obtain ⟨rfl, rfl, rfl⟩ := resP_ok HH.out
           clear HQ HH
           have hcell : wr.cell? ⟨w.heap.size, 3, none⟩ = some (.int .i64 8) := by rw [(bcell hBr).1 _ _ hsz]; exact HCS.out 3
           go_wp2_with fail
           go_region
           all_goals go_wp2_with fail
           all_goals go_ret3
           all_goals exact ⟨rfl, below_more hal (bel_drew hBr)⟩
         · rw [if_neg hc] at hq
           have HST := Lib.hid hq
           have hcb : ((s[a].toNat : Int) == 98) = false := beq_eq_false_iff_ne.2 (by omega)
           clear HQ hq hc
           go_wp2_with fail
           go_region
           all_goals go_wp2_with fail
           all_goals exact ⟨⟨4, by omega, rfl, HST, bel_drew hBr⟩, by simp [intOf]⟩
       · have hq : (if s[a].toNat = 102 then (12 : Int) else escF 5 s[a]) = v := HQ.out
         have hk : ((⟨#[34, 92, 47, 98, 102, 110, 114, 116]⟩ : ByteArray)[4]'(by decide)).toNat = 102 := rfl
         by_cases hc : s[a].toNat = 102
         · rw [if_pos hc] at hq
           subst hq
           obtain ⟨rfl, rfl, rfl⟩ := resP_ok HH.out
           clear HQ HH
           have hcell : wr.cell? ⟨w.heap.size, 4, none⟩ = some (.int .i64 12) := by rw [(bcell hBr).1 _ _ hsz]; exact HCS.out 4
           go_wp2_with fail
           go_region
           all_goals go_wp2_with fail
           all_goals go_ret3
           all_goals exact ⟨rfl, below_more hal (bel_drew hBr)⟩
         · rw [if_neg hc] at hq
           have HST := Lib.hid hq
           have hcb : ((s[a].toNat : Int) == 102) = false := beq_eq_false_iff_ne.2 (by omega)
           clear HQ hq hc
           go_wp2_with fail
           go_region
           all_goals go_wp2_with fail
           all_goals exact ⟨⟨5, by omega, rfl, HST, bel_drew hBr⟩, by simp [intOf]⟩
       · have hq : (if s[a].toNat = 110 then (10 : Int) else escF 6 s[a]) = v := HQ.out
         have hk : ((⟨#[34, 92, 47, 98, 102, 110, 114, 116]⟩ : ByteArray)[5]'(by decide)).toNat = 110 := rfl
         by_cases hc : s[a].toNat = 110
         · rw [if_pos hc] at hq
           subst hq
           obtain ⟨rfl, rfl, rfl⟩ := resP_ok HH.out
           clear HQ HH
           have hcell : wr.cell? ⟨w.heap.size, 5, none⟩ = some (.int .i64 10) := by rw [(bcell hBr).1 _ _ hsz]; exact HCS.out 5
           go_wp2_with fail
           go_region
           all_goals go_wp2_with fail
           all_goals go_ret3
           all_goals exact ⟨rfl, below_more hal (bel_drew hBr)⟩
         · rw [if_neg hc] at hq
           have HST := Lib.hid hq
           have hcb : ((s[a].toNat : Int) == 110) = false := beq_eq_false_iff_ne.2 (by omega)
           clear HQ hq hc
           go_wp2_with fail
           go_region
           all_goals go_wp2_with fail
           all_goals exact ⟨⟨6, by omega, rfl, HST, bel_drew hBr⟩, by simp [intOf]⟩
       · have hq : (if s[a].toNat = 114 then (13 : Int) else escF 7 s[a]) = v := HQ.out
         have hk : ((⟨#[34, 92, 47, 98, 102, 110, 114, 116]⟩ : ByteArray)[6]'(by decide)).toNat = 114 := rfl
         by_cases hc : s[a].toNat = 114
         · rw [if_pos hc] at hq
           subst hq
           obtain ⟨rfl, rfl, rfl⟩ := resP_ok HH.out
           clear HQ HH
           have hcell : wr.cell? ⟨w.heap.size, 6, none⟩ = some (.int .i64 13) := by rw [(bcell hBr).1 _ _ hsz]; exact HCS.out 6
           go_wp2_with fail
           go_region
           all_goals go_wp2_with fail
           all_goals go_ret3
           all_goals exact ⟨rfl, below_more hal (bel_drew hBr)⟩
         · rw [if_neg hc] at hq
           have HST := Lib.hid hq
           have hcb : ((s[a].toNat : Int) == 114) = false := beq_eq_false_iff_ne.2 (by omega)
           clear HQ hq hc
           go_wp2_with fail
           go_region
           all_goals go_wp2_with fail
           all_goals exact ⟨⟨7, by omega, rfl, HST, bel_drew hBr⟩, by simp [intOf]⟩
       · have hq : (if s[a].toNat = 116 then (9 : Int) else escF 8 s[a]) = v := HQ.out
         have hk : ((⟨#[34, 92, 47, 98, 102, 110, 114, 116]⟩ : ByteArray)[7]'(by decide)).toNat = 116 := rfl
         by_cases hc : s[a].toNat = 116
         · rw [if_pos hc] at hq
           subst hq
           obtain ⟨rfl, rfl, rfl⟩ := resP_ok HH.out
           clear HQ HH
           have hcell : wr.cell? ⟨w.heap.size, 7, none⟩ = some (.int .i64 9) := by rw [(bcell hBr).1 _ _ hsz]; exact HCS.out 7
           go_wp2_with fail
           go_region
           all_goals go_wp2_with fail
           all_goals go_ret3
           all_goals exact ⟨rfl, below_more hal (bel_drew hBr)⟩
         · rw [if_neg hc] at hq
           have HST := Lib.hid hq
           have hcb : ((s[a].toNat : Int) == 116) = false := beq_eq_false_iff_ne.2 (by omega)
           clear HQ hq hc
           go_wp2_with fail
           go_region
           all_goals go_wp2_with fail
           all_goals exact ⟨⟨8, by omega, rfl, HST, bel_drew hBr⟩, by simp [intOf]⟩
       · have hq : (-1 : Int) = v := HQ.out
         subst hq
         have h := HH.out
         rw [if_pos (by decide)] at h
         obtain ⟨rfl, rfl, rfl⟩ := resP_bad (by decide) h
         clear h HQ HH
         go_wp2_with fail
         go_ret3
         exact ⟨rfl, below_more hal hBr⟩
 · have h := hr.out
   rw [drop_none (by omega), escP] at h
   obtain ⟨rfl, rfl, rfl⟩ := resP_bad (by decide) h
   clear h hr
   go_enter Tryz.func120, Tryz.ntmps120
   go_wp2_with fail
   go_ret3
   exact ⟨rfl, Below.refl _ _⟩
end

section
set_option maxRecDepth 100000
open Go.RowKit
theorem resP_item {a : Nat} (x : Int × Nat × Int) : resP (a + 1) x = resP a (if x.2.2 ≠ 0 then (0, 0, x.2.2) else (x.1, x.2.1 + 1, 0)) := by
 unfold resP
 by_cases h : x.2.2 ≠ 0
 · simp only [if_pos h]
 · simp only [if_neg h, ne_eq, not_true_eq_false, if_false, Prod.mk.injEq, true_and, and_true]
   omega
theorem next_none (l : List UInt8) (h : (nextP l).2.2 ≠ 0) : (nextP l).2.1 = 0 := by
 match l with
 | [] => rfl
 | c :: l =>
   by_cases h1 : c.toNat < 128
   · rw [next1 _ h1] at h; exact absurd rfl h
   · by_cases h2 : c.toNat < 194 ∨ 244 < c.toNat
     · rw [next_bad _ h1 h2]
     · obtain ⟨n, m, lw, hg, hc⟩ := next_cont c (by omega) (by omega)
       rw [hc] at h ⊢
       rw [contR_err] at h
       unfold contR
       rw [if_neg h]
theorem cat_str (a b : ByteArray) : a ++ b = ⟨(a.data.toList ++ b.data.toList).toArray⟩ := by
 cases a; cases b; simp [ByteArray.ext_iff]
set_option maxHeartbeats 8000000 in
theorem refText_any (s : ByteArray) (a : Nat) (w : World) (hs : s.size ≤ 281474976710656) (ha : a < s.size) (hq : s[a].toNat = 34) (t : List UInt8) (r2 r3 : Int) (hr : Hid (strR (a + 1) (strQ (s.data.toList.drop (a + 1)) []) = (t, r2, r3))) :
   Calls Tryz.prog 93 #[.string s, .int .i64 a] w fun e w' => e = .returned (.tuple #[.string ⟨t.toArray⟩, .int .i64 r2, .int .i64 r3]) ∧ Below w.heap.size w w' := by
 have h1 : ((s[a].toNat : Int) != 34) = false := by rw [hq]; rfl
 have hlen : ((a : Int) == (s.size : Int)) = false := beq_eq_false_iff_ne.2 (by omega)
 have hlt : ¬ (s.size : Int) < (a : Int) := by omega
 have hng : decide ((a : Int) < 0) = false := by simp
 clear hq
 go_enter Tryz.func93, Tryz.ntmps93
 go_wp2_with fail
 go_loopw [1, 7] (fun p o wr => ∃ (q : Nat) (out : ByteArray), a + 1 ≤ q ∧ q ≤ s.size ∧ p = .int .i64 q ∧ o = .string out ∧ out.size ≤ 4096 ∧ Hid (strR q (strQ (s.data.toList.drop q) out.data.toList) = (t, r2, r3)) ∧ Below w.heap.size w wr) (fun p _ _ => s.size - (intOf p).toNat)
 case atStart => exact ⟨a + 1, ⟨#[]⟩, by omega, by omega, by go_num, rfl, by decide, hr, Below.refl _ _⟩
 case round =>
   obtain ⟨q, out, q1, q2, rfl, rfl, ho, HQ, hBr⟩ := hrel
   have hsz := hBr.size
   by_cases hqs : q < s.size
   · have hst := HQ.out
     have hdr := drop_at hqs
     rw [hdr, strQ_step] at hst
     by_cases hc : s[q].toNat = 34
     · rw [if_pos hc] at hst
       unfold strR at hst
       simp only [ne_eq, not_true_eq_false, if_false, Prod.mk.injEq] at hst
       obtain ⟨rfl, rfl, rfl⟩ := hst
       have hcb : ((s[q].toNat : Int) == 34) = true := by rw [hc]; rfl
       clear hc hdr HQ
       go_wp2_with fail
       go_ret3
       exact ⟨rfl, hBr⟩
     · rw [if_neg hc, ← hdr] at hst
       have hcb : ((s[q].toNat : Int) == 34) = false := beq_eq_false_iff_ne.2 (by omega)
       obtain ⟨x, k, z, hi⟩ : ∃ x k z, itemP (s.data.toList.drop q) = (x, k, z) := ⟨_, _, _, rfl⟩
       have hok := itemP_ok (s.data.toList.drop q)
       rw [hi] at hst hok
       simp only [List.length_drop, size_len] at hst hok
       have hip := hi
       rw [hdr, itemP] at hip
       clear HQ hc
       by_cases hlow : s[q].toNat < 32
       · rw [if_pos hlow] at hip
         simp only [Prod.mk.injEq] at hip
         obtain ⟨rfl, rfl, rfl⟩ := hip
         rw [if_pos (by decide)] at hst
         obtain ⟨rfl, rfl, rfl⟩ := strR_bad (by decide) hst
         have hlb : decide ((s[q].toNat : Int) < 32) = true := by simp; omega
         clear hst hi hok hdr hlow
         go_wp2_with fail
         go_ret3
         exact ⟨rfl, hBr⟩
       · rw [if_neg hlow] at hip
         have hlb : decide ((s[q].toNat : Int) < 32) = false := by simp; omega
         by_cases hz : z ≠ 0
         · rw [if_pos hz] at hst
           obtain ⟨rfl, rfl, rfl⟩ := strR_bad hz hst
           have hzb : (r3 != 0) = true := by rw [bne_iff_ne]; exact hz
           by_cases h92 : s[q].toNat = 92
           · rw [if_neg (by omega)] at hip
             have hcc : ((s[q].toNat : Int) == 92) = true := by rw [h92]; rfl
             have hes : resP (q + 1) (escP (s.data.toList.drop (q + 1))) = (0, 0, r3) := by
               rw [resP_item, hip, resP, if_pos hz]
             have HC := Lib.hid (fun W => refEscape_any s (q + 1) W hs (by omega) 0 0 r3 hes)
             clear hz hi hok hst hip hes h92 hlow hdr
             go_wp2_with fail
             refine (HC.out _).mono ?_
             rintro e w2 ⟨rfl, hb2⟩
             go_wp2_with fail
             go_ret3
             exact ⟨rfl, hBr.trans (hb2.mono hsz)⟩
           · rw [if_pos h92] at hip
             have hcc : ((s[q].toNat : Int) == 92) = false := beq_eq_false_iff_ne.2 (by omega)
             obtain ⟨y1, y2, y3, hy⟩ : ∃ y1 y2 y3, nextP (s.data.toList.drop q) = (y1, y2, y3) := ⟨_, _, _, rfl⟩
             have hysz := next_size (s.data.toList.drop q)
             have hynz := next_none (s.data.toList.drop q)
             rw [← hdr, hy] at hip
             rw [hy] at hynz
             simp only [] at hip hynz
             by_cases hy3 : y3 ≠ 0
             · rw [if_pos hy3] at hip
               simp only [Prod.mk.injEq] at hip
               obtain ⟨-, -, rfl⟩ := hip
               have hy2 := hynz hy3
               subst hy2
               have HC := Lib.hid (fun W => refNext_in s q W hs (by omega) y1 0 y3 hy)
               clear hz hi hok hst hlow hdr h92 hy hysz hynz hy3
               go_wp2_with fail
               refine (HC.out _).mono ?_
               rintro e w2 ⟨rfl, hb2⟩
               go_wp2_with fail
               go_ret3
               exact ⟨rfl, hBr.trans (hb2.mono hsz)⟩
             · rw [if_neg hy3] at hip
               simp only [Prod.mk.injEq] at hip
               exact absurd hip.2.2.symm hz
         · have hz0 : z = 0 := by simpa using hz
           subst hz0
           obtain ⟨hrune, k1, k2⟩ := hok rfl
           rw [if_neg hz] at hst
           have hel := encP_len x
           obtain ⟨tb, htb⟩ : ∃ tb : ByteArray, tb = ⟨(encP x).toArray⟩ := ⟨_, rfl⟩
           have htl : tb.data.toList = encP x := by rw [htb]
           have htz : tb.size = (encP x).length := by rw [← size_len, htl]
           have HP := Lib.hid (fun W => refPut_any x W hrune tb htb)
           have HT := Lib.hid htl
           rw [← htz] at hel hst
           clear hz hok hrune htb htl htz
           by_cases hlong : 4096 < out.size + tb.size
           · rw [if_pos hlong] at hst
             obtain ⟨rfl, rfl, rfl⟩ := strR_bad (by decide) hst
             clear hst
             by_cases h92 : s[q].toNat = 92
             · rw [if_neg (by omega)] at hip
               have hcc : ((s[q].toNat : Int) == 92) = true := by rw [h92]; rfl
               have hes : resP (q + 1) (escP (s.data.toList.drop (q + 1))) = (x, ((q + k : Nat) : Int), 0) := by
                 rw [resP_item, hip, resP, if_neg (by simp)]; simp
               have HC := Lib.hid (fun W => refEscape_any s (q + 1) W hs (by omega) x ((q + k : Nat) : Int) 0 hes)
               clear hi hip hes h92 hlow hdr
               go_wp2_with fail
               refine (HC.out _).mono ?_
               rintro e w2 ⟨rfl, hb2⟩
               go_wp2_with fail
               refine (HP.out _).mono ?_
               rintro e w3 ⟨rfl, hb3⟩
               go_wp2_with fail
               go_ret3
               exact ⟨rfl, below_more (below_more hBr hb2) hb3⟩
             · rw [if_pos h92] at hip
               have hcc : ((s[q].toNat : Int) == 92) = false := beq_eq_false_iff_ne.2 (by omega)
               obtain ⟨y1, y2, y3, hy⟩ : ∃ y1 y2 y3, nextP (s.data.toList.drop q) = (y1, y2, y3) := ⟨_, _, _, rfl⟩
               have hysz := next_size (s.data.toList.drop q)
               rw [← hdr, hy] at hip
               rw [hy] at hysz
               simp only [List.length_drop, size_len] at hip hysz
               by_cases hy3 : y3 ≠ 0
               · rw [if_pos hy3] at hip
                 simp only [Prod.mk.injEq] at hip
                 exact absurd hip.2.2 hy3
               · rw [if_neg hy3] at hip
                 have hy0 : y3 = 0 := by simpa using hy3
                 subst hy0
                 simp only [Prod.mk.injEq, and_true] at hip
                 obtain ⟨rfl, hk⟩ := hip
                 have hy2 := hysz rfl
                 obtain rfl : y2 = (k : Int) := by omega
                 have HC := Lib.hid (fun W => refNext_in s q W hs (by omega) y1 (k : Int) 0 hy)
                 clear hi hk hlow hdr h92 hy hysz hy3 hy2
                 go_wp2_with fail
                 refine (HC.out _).mono ?_
                 rintro e w2 ⟨rfl, hb2⟩
                 go_wp2_with fail
                 refine (HP.out _).mono ?_
                 rintro e w3 ⟨rfl, hb3⟩
                 go_wp2_with fail
                 go_ret3
                 exact ⟨rfl, below_more (below_more hBr hb2) hb3⟩
           · rw [if_neg hlong, strR_T, List.drop_drop] at hst
             have HST := Lib.hid hst
             clear hst
             have hl1 : out.size + tb.size ≤ 4096 := by omega
             have hfin : Hid (strR (q + k) (strQ (s.data.toList.drop (q + k)) (out ++ tb).data.toList) = (t, r2, r3)) := by
               show _ = _
               rw [cat_str]
               show strR (q + k) (strQ (s.data.toList.drop (q + k)) (out.data.toList ++ tb.data.toList)) = _
               rw [HT.out]
               exact HST.out
             have hszc : (out ++ tb).size ≤ 4096 := by rw [ByteArray.size_append]; exact hl1
             clear hlong HST HT
             by_cases h92 : s[q].toNat = 92
             · rw [if_neg (by omega)] at hip
               have hcc : ((s[q].toNat : Int) == 92) = true := by rw [h92]; rfl
               have hes : resP (q + 1) (escP (s.data.toList.drop (q + 1))) = (x, ((q + k : Nat) : Int), 0) := by
                 rw [resP_item, hip, resP, if_neg (by simp)]; simp
               have HC := Lib.hid (fun W => refEscape_any s (q + 1) W hs (by omega) x ((q + k : Nat) : Int) 0 hes)
               clear hi hip hes h92 hlow hdr
               go_wp2_with fail
               refine (HC.out _).mono ?_
               rintro e w2 ⟨rfl, hb2⟩
               go_wp2_with fail
               refine (HP.out _).mono ?_
               rintro e w3 ⟨rfl, hb3⟩
               go_wp2_with fail
               refine ⟨?_, by simp [intOf]; omega⟩
               exact ⟨q + k, out ++ tb, by omega, by omega, rfl, rfl, hszc, hfin, below_more (below_more hBr hb2) hb3⟩
             · rw [if_pos h92] at hip
               have hcc : ((s[q].toNat : Int) == 92) = false := beq_eq_false_iff_ne.2 (by omega)
               obtain ⟨y1, y2, y3, hy⟩ : ∃ y1 y2 y3, nextP (s.data.toList.drop q) = (y1, y2, y3) := ⟨_, _, _, rfl⟩
               have hysz := next_size (s.data.toList.drop q)
               rw [← hdr, hy] at hip
               rw [hy] at hysz
               simp only [List.length_drop, size_len] at hip hysz
               by_cases hy3 : y3 ≠ 0
               · rw [if_pos hy3] at hip
                 simp only [Prod.mk.injEq] at hip
                 exact absurd hip.2.2 hy3
               · rw [if_neg hy3] at hip
                 have hy0 : y3 = 0 := by simpa using hy3
                 subst hy0
                 simp only [Prod.mk.injEq, and_true] at hip
                 obtain ⟨rfl, hk⟩ := hip
                 have hy2 := hysz rfl
                 obtain rfl : y2 = (k : Int) := by omega
                 have HC := Lib.hid (fun W => refNext_in s q W hs (by omega) y1 (k : Int) 0 hy)
                 clear hi hk hlow hdr h92 hy hysz hy3 hy2
                 go_wp2_with fail
                 refine (HC.out _).mono ?_
                 rintro e w2 ⟨rfl, hb2⟩
                 go_wp2_with fail
                 refine (HP.out _).mono ?_
                 rintro e w3 ⟨rfl, hb3⟩
                 go_wp2_with fail
                 refine ⟨?_, by simp [intOf]; omega⟩
                 exact ⟨q + k, out ++ tb, by omega, by omega, by go_num, rfl, hszc, hfin, below_more (below_more hBr hb2) hb3⟩
   · have hst := HQ.out
     rw [drop_none (by omega), strQ_nil] at hst
     obtain ⟨rfl, rfl, rfl⟩ := strR_bad (by decide) hst
     clear hst HQ
     go_wp2_with fail
     go_ret3
     exact ⟨rfl, hBr⟩
end
end Go.Proofs.YtmggmpigpiaagaaGreatDoor
