/-
  legateref16.Same of envelopes that are alike.
  legatelaw16.awake: the examples.
-/
import Derived.Test.YtmggmpigpiaagaaGreatDoorSignX
import Derived.Test.YtmggmpigpiaagaaGreatDoorSame
import Derived.Laws.StructEq
import Derived.BigQuiet
import Derived.Test.YtmggmpigpiaagaaGreatDoorSignM
import Derived.Test.YtmggmpigpiaagaaGreatDoorSignR
import Derived.Deep.RegionHeld3
namespace Go.Proofs.YtmggmpigpiaagaaGreatDoor
section
set_option maxRecDepth 100000
open Go.RowKit
theorem sigNeq (a b : ByteArray) (w : World) : (binOp .neq 43 (.agg #[.string a, .string b]) (.agg #[.string a, .string b])).run Tryz.prog w = .ok (.bool false) w := by
 rw [run_neq_struct, run_equalIn_agg w 9999 43 _ _ (by kernel_rfl) (by kernel_rfl)]
 simp [Op.eqFields, Program.fieldsOf, Tryz.underlying43, go_sem]
theorem sigGuard (op : BinOp) (x y : Operand) (xs ys : Array Value) (w : World) : (eqGuard op 43 x y (.agg xs) (.agg ys)).run Tryz.prog w = .ok () w := run_eqGuard_agg w op 43 x y xs ys (by kernel_rfl)
theorem sigs_get {w : World} {a : Option Addr} {n c : Nat} {l : List SigP} (h : SigsAt w (.slice a n c) l) : n = l.length ∧ ∀ i s, l[i]? = some s → ∃ b o, a = some ⟨b, o, none⟩ ∧ w.cell? ⟨b, o + i * 2, none⟩ = some (.string s.1) ∧ w.cell? ⟨b, o + i * 2 + 1, none⟩ = some (.string s.2) := by
 obtain ⟨a', c', e, hc⟩ := h
 cases e
 exact ⟨rfl, hc⟩
set_option maxHeartbeats 8000000 in
theorem same16_yes (X : JV) (l : List SigP) (y y' : VC) (a a' : Option Addr) (n c c' : Nat) (w : World) (hn : l.length = n) (h : ValAt w X y.val) (h' : ValAt w X y'.val) (hs : SigsAt w (.slice a n c) l) (hs' : SigsAt w (.slice a' n c') l) (hl : n ≤ 1000) :
   Calls Tryz.prog 9 #[envVal y a n c, envVal y' a' n c'] w fun e w' => e = .returned (.bool true) ∧ Below w.heap.size w w' := by
 obtain ⟨yk, yn, yt, ya, yl, yc, yb, ym, ye⟩ := y
 obtain ⟨zk, zn, zt, za, zl, zc, zb, zm, ze⟩ := y'
 obtain ⟨W, hW⟩ : ∃ W, W = (w.alloc (.cells #[.int .u8 yk, .int .i64 yn, .string yt, .slice ya yl yc, .slice yb ym ye, .slice a n c] 29)).alloc (.cells #[.int .u8 zk, .int .i64 zn, .string zt, .slice za zl zc, .slice zb zm ze, .slice a' n c'] 29) := ⟨_, rfl⟩
 have hbW : Below w.heap.size w W := by rw [hW]; exact bel_alloc (bel_alloc (Below.refl _ _) _) _
 have hK1 : BlkAt W w.heap.size 29 #[.int .u8 yk, .int .i64 yn, .string yt, .slice ya yl yc, .slice yb ym ye, .slice a n c] := by
   rw [hW]
   exact (blkAt_new w _ _).alloc _
 have hK2 : BlkAt W (w.heap.size + 1) 29 #[.int .u8 zk, .int .i64 zn, .string zt, .slice za zl zc, .slice zb zm ze, .slice a' n c'] := by
   rw [hW]
   have := blkAt_new (w.alloc (.cells #[.int .u8 yk, .int .i64 yn, .string yt, .slice ya yl yc, .slice yb ym ye, .slice a n c] 29)) #[.int .u8 zk, .int .i64 zn, .string zt, .slice za zl zc, .slice zb zm ze, .slice a' n c'] 29
   rwa [size_al] at this
 obtain ⟨k0, k1, k2, k3, k4, k5, kf⟩ := b6' hK1
 obtain ⟨m0, m1, m2, m3, m4, m5, mf⟩ := b6' hK2
 have HC1 := Lib.hid (sigs_get hs).2
 have HC2 := Lib.hid (sigs_get hs').2
 have HV1 := Lib.hid (h.keep hbW)
 have HV2 := Lib.hid (h'.keep hbW)
 have HBW := Lib.hid hbW
 have HN := Lib.hid hn
 have HW := Lib.hid hW
 clear hs hs' h h' hbW hn hW hK1 hK2
 go_enter Tryz.func9, Tryz.ntmps9
 simp only [envVal, VC.val] at HV1 HV2 ⊢
 go_wp2_with fail
 rw [← HW.out]
 go_loopw [5] (fun i wr => ∃ k : Nat, k ≤ n ∧ i = .int .i64 k ∧ ∃ nq, wr = W.drewN nq) (fun i _ => n - (intOf i).toNat)
 case atStart => exact ⟨0, by omega, rfl, 0, rfl⟩
 case round =>
   obtain ⟨k, hk, rfl, nq, rfl⟩ := hrel
   by_cases hkn : k < n
   · obtain ⟨s, hs⟩ : ∃ s, l[k]? = some s := ⟨_, List.getElem?_eq_getElem (by rw [HN.out]; exact hkn)⟩
     obtain ⟨b1, o1, rfl, p1, p2⟩ := HC1.out k s hs
     obtain ⟨b2, o2, rfl, q1, q2⟩ := HC2.out k s hs
     have p1' := cell_keep HBW.out p1
     have p2' := cell_keep HBW.out p2
     have q1' := cell_keep HBW.out q1
     have q2' := cell_keep HBW.out q2
     have hneq := fun w => sigNeq s.1 s.2 w
     have hgu := fun x y xs ys w => sigGuard .neq x y xs ys w
     have i0 : (0 : Int) ≤ (k : Int) := by omega
     have i1 : (k : Int) < (n : Int) := by omega
     clear hs p1 p2 q1 q2 hkn
     go_wp2_with fail
     go_quiet (fail)
     go_wp2_with fail
     exact ⟨⟨k + 1, by omega, by go_num, _, rfl⟩, by simp [intOf]; omega⟩
   · have i1 : ¬ (k : Int) < (n : Int) := by omega
     have HS := Lib.hid (Same_any X X _ _ _ (HV1.out.keep (below_drewN (Below.refl _ W) nq)) (HV2.out.keep (below_drewN (Below.refl _ W) nq)))
     go_wp2_with fail
     refine HS.out.mono ?_
     rintro e w2 ⟨rfl, hb2⟩
     rw [sameV_self]
     have HB2 := Lib.hid (below_more (below_drewN HBW.out nq) hb2)
     clear hb2
     go_wp2_with fail
     go_ret
     exact ⟨rfl, HB2.out⟩
end

section
set_option maxRecDepth 100000
open Go.RowKit
theorem ex0_may : envMay [] exV = true := by kernel_rfl
theorem ex1_may : envMay [exSig] exV = true := by kernel_rfl
theorem exV_may : mayB exV = true := by kernel_rfl
def exPre : ByteArray := ⟨#[123, 34, 115, 105, 103, 110, 97, 116, 117, 114, 101, 115, 34, 58, 91, 123, 34, 107, 101, 121, 105, 100, 34, 58, 34]⟩
def exPost : ByteArray := ⟨#[34, 44, 34, 115, 105, 103, 34, 58, 34, 48, 48, 102, 102, 34, 125, 93, 44, 34, 115, 105, 103, 110, 101, 100, 34, 58, 123, 34, 97, 34, 58, 49, 125, 125]⟩
def exEmpty : ByteArray := ⟨#[123, 34, 115, 105, 103, 110, 97, 116, 117, 114, 101, 115, 34, 58, 91, 93, 44, 34, 115, 105, 103, 110, 101, 100, 34, 58, 91, 93, 125]⟩
theorem ex_form : formV (envO [exSig] exV) = exPre.data.toList ++ (idText 97).data.toList ++ exPost.data.toList := by kernel_rfl
theorem ex_read : envT (formV (envO [exSig] exV)) = .ok ([exSig], exV) := by kernel_rfl
theorem ex_bad : envT exEmpty.data.toList = .bad 10 := by kernel_rfl
theorem exV_form : formV exV = [123, 34, 97, 34, 58, 49, 125] := by kernel_rfl
theorem ex33_may : envMay (List.replicate 33 exSig) exV = false := by unfold envMay; rw [List.length_replicate]; rfl
theorem catL (s t : ByteArray) : (s ++ t).data.toList = s.data.toList ++ t.data.toList := by
 rw [ByteArray.data_append]
 simp
theorem exSig_sz : ∀ s ∈ [exSig], s.1.size ≤ 281474976710656 ∧ s.2.size ≤ 281474976710656 := fun s hs => by
 rw [List.mem_singleton.1 hs]; exact ⟨by decide, by decide⟩
theorem exSig_szm : ∀ s ∈ [exSig], s.1.size ≤ maxLen ∧ s.2.size ≤ maxLen := fun s hs => by
 rw [List.mem_singleton.1 hs]; exact ⟨by decide, by decide⟩
theorem exSigs_sz (n : Nat) : ∀ s ∈ List.replicate n exSig, s.1.size ≤ 281474976710656 ∧ s.2.size ≤ 281474976710656 := fun s hs => by
 rw [(List.mem_replicate.1 hs).2]; exact ⟨by decide, by decide⟩
theorem exSigs_szm (n : Nat) : ∀ s ∈ List.replicate n exSig, s.1.size ≤ maxLen ∧ s.2.size ≤ maxLen := fun s hs => by
 rw [(List.mem_replicate.1 hs).2]; exact ⟨by decide, by decide⟩
theorem ex16_bare (n : Nat) (hn : n ≤ 100) (w : World) :
   Calls Tryz.prog 11 #[.int .i64 n] w fun e w' => ∃ (y : VC) (a : Option Addr) (c : Nat), e = .returned (envVal y a n c) ∧ Below w.heap.size w w' ∧ ValAt w' exV y.val ∧ SigsAt w' (.slice a n c) (List.replicate n exSig) :=
 (ex16_any n hn w).mono fun _e _w' ⟨y, a, c, h1, h2, h3, h4⟩ => ⟨y, a, c, h1, h2, h3.bare, h4.imp fun _p _u hu => ((hidden_cell _ _ _ _).1 hu).2.2⟩
set_option maxHeartbeats 16000000 in
theorem awake16_any (w : World) (henv : NumEnv w) (htab : TabEnv w) :
   Calls Tryz.prog 6 #[] w fun e w' => e = .returned (.bool true) ∧ Below w.heap.size w w' := by
 have HE1 : Hid (∀ W, Calls Tryz.prog 11 #[.int .i64 1] W fun e w' => ∃ (y : VC) (a : Option Addr) (c : Nat), e = .returned (envVal y a 1 c) ∧ Below W.heap.size W w' ∧ ValAt w' exV y.val ∧ SigsAt w' (.slice a 1 c) [exSig]) := fun W => ex16_bare 1 (by decide) W
 have HE0 : Hid (∀ W, Calls Tryz.prog 11 #[.int .i64 0] W fun e w' => ∃ (y : VC) (a : Option Addr) (c : Nat), e = .returned (envVal y a 0 c) ∧ Below W.heap.size W w' ∧ ValAt w' exV y.val ∧ SigsAt w' (.slice a 0 c) []) := fun W => ex16_bare 0 (by decide) W
 have HE33 : Hid (∀ W, Calls Tryz.prog 11 #[.int .i64 33] W fun e w' => ∃ (y : VC) (a : Option Addr) (c : Nat), e = .returned (envVal y a 33 c) ∧ Below W.heap.size W w' ∧ ValAt w' exV y.val ∧ SigsAt w' (.slice a 33 c) (List.replicate 33 exSig)) := fun W => ex16_bare 33 (by decide) W
 have HNE : Hid (∀ W, Below w.heap.size w W → NumEnv W) := fun W hb => henv.below hb
 have HTE : Hid (∀ W, Below w.heap.size w W → TabEnv W) := fun W hb => htab.below hb
 obtain ⟨S1, hS1⟩ : ∃ S1 : ByteArray, S1 = ⟨(formV (envO [exSig] exV)).toArray⟩ := ⟨_, rfl⟩
 have hd1 : S1.data.toList = formV (envO [exSig] exV) := by rw [hS1]
 have hr1 : envT S1.data.toList = .ok ([exSig], exV) := by rw [hd1, ex_read]
 have hz1 : S1.size ≤ 9223372036854775807 := by rw [← size_len, hd1, ex_form]; decide
 have hq1 : (S1.toList == ((exPre ++ idText 97) ++ exPost).toList) = true := by
   rw [toList_data, toList_data, catL, catL, hd1, ex_form]
   simp
 have HS1 := Lib.hid hS1
 have HS2 : Hid ((⟨#[123, 34, 97, 34, 58, 49, 125]⟩ : ByteArray) = ⟨(formV exV).toArray⟩) := by show _ = _; rw [exV_form]
 have HQ1 := Lib.hid hq1
 have HP1 := Lib.hid (fun W (hb : Below w.heap.size w W) => pRead_any S1 W hz1 (henv.below hb))
 rw [hr1] at HP1
 have HP2 := Lib.hid (fun W (hb : Below w.heap.size w W) => pRead_any exEmpty W (by decide) (henv.below hb))
 rw [ex_bad] at HP2
 clear hS1 hd1 hr1 hz1 henv htab hq1
 go_enter Tryz.func6, Tryz.ntmps6
 go_wp2_with fail
 refine (HE1.out _).mono ?_
 rintro e w1 ⟨y1, a1, c1, rfl, hb1, hv1, hs1⟩
 have HB1 := Lib.hid hb1
 have HSH := Lib.hid (sShow_yes exV [exSig] y1 a1 1 c1 w1 rfl hv1 hs1 (by decide) exSig_sz exSig_szm ex1_may (HTE.out _ hb1) S1 HS1)
 clear hb1 hv1 hs1
 go_wp2_with fail
 refine HSH.out.mono ?_
 rintro e w2 ⟨rfl, hb2⟩
 have HB2 := Lib.hid (below_more HB1.out hb2)
 clear hb2 HSH
 go_wp2_with fail
 refine (HE1.out _).mono ?_
 rintro e w3 ⟨y3, a3, c3, rfl, hb3, hv3, hs3⟩
 have HB3 := Lib.hid (below_more HB2.out hb3)
 have HSG := Lib.hid (sSigned_yes exV [exSig] y3 a3 1 c3 w3 rfl hv3 hs3 (by decide) exSig_sz exSig_szm ex1_may exV_may (HTE.out _ HB3.out) (⟨#[123, 34, 97, 34, 58, 49, 125]⟩ : ByteArray) HS2)
 clear hb3 hv3 hs3
 go_wp2_with fail
 refine HSG.out.mono ?_
 rintro e w4 ⟨rfl, hb4⟩
 have HB4 := Lib.hid (below_more HB3.out hb4)
 clear hb4 HSG
 go_wp2_with fail
 refine (HP1.out _ HB4.out).mono ?_
 rintro e w5 ⟨hb5, ⟨xk, xn, xt, xa, xl, xc, xb, xm, xe⟩, sa, sc, rfl, hv5, hs5⟩
 have HV5 := Lib.hid hv5.bare
 have HG5 : Hid (SigsAt w5 (.slice sa 1 sc) [exSig]) := hs5.imp fun p u hu => ((hidden_cell _ _ _ _).1 hu).2.2
 have HB5 := Lib.hid (below_more HB4.out hb5)
 clear hv5 hs5 hb5
 simp only [envVal, List.length_singleton]
 go_wp2_with fail
 have HB6 := Lib.hid (bel_alloc HB5.out (.cells #[.int .u8 xk, .int .i64 xn, .string xt, .slice xa xl xc, .slice xb xm xe, .slice sa 1 sc] 29))
 have HV6 : Hid (ValAt (w5.alloc (.cells #[.int .u8 xk, .int .i64 xn, .string xt, .slice xa xl xc, .slice xb xm xe, .slice sa 1 sc] 29)) exV (VC.val ⟨xk, xn, xt, xa, xl, xc, xb, xm, xe⟩)) := HV5.out.keep (bel_alloc (Below.refl _ _) _)
 have HG6 : Hid (SigsAt (w5.alloc (.cells #[.int .u8 xk, .int .i64 xn, .string xt, .slice xa xl xc, .slice xb xm xe, .slice sa 1 sc] 29)) (.slice sa 1 sc) [exSig]) := HG5.out.keep (bel_alloc (Below.refl _ _) _)
 have HK6 : Hid (BlkAt (w5.alloc (.cells #[.int .u8 xk, .int .i64 xn, .string xt, .slice xa xl xc, .slice xb xm xe, .slice sa 1 sc] 29)) w5.heap.size 29 #[.int .u8 xk, .int .i64 xn, .string xt, .slice xa xl xc, .slice xb xm xe, .slice sa 1 sc]) := blkAt_new w5 _ _
 generalize w5.alloc (.cells #[.int .u8 xk, .int .i64 xn, .string xt, .slice xa xl xc, .slice xb xm xe, .slice sa 1 sc] 29) = w6 at HB6 HV6 HG6 HK6 ⊢
 generalize w5.heap.size = xb6 at HK6 ⊢
 clear HV5 HG5
 refine (HP2.out _ HB6.out).mono ?_
 rintro e w7 ⟨hb7, rfl, -⟩
 have HB67 : Hid (Below w6.heap.size w6 (w7.alloc (.cells #[.int .u8 0, .int .i64 0, .string ⟨#[]⟩, .slice none 0 0, .slice none 0 0, .slice none 0 0] 29))) := bel_alloc hb7 _
 clear hb7
 simp only [zEnv]
 go_wp2_with fail
 generalize w7.alloc (.cells #[.int .u8 0, .int .i64 0, .string ⟨#[]⟩, .slice none 0 0, .slice none 0 0, .slice none 0 0] 29) = w8 at HB67 ⊢
 have HB8 := Lib.hid (below_more HB6.out HB67.out)
 refine (HE33.out _).mono ?_
 rintro e w9 ⟨y9, a9, c9, rfl, hb9, hv9, hs9⟩
 have HSH := Lib.hid (sShow_no exV (List.replicate 33 exSig) y9 a9 33 c9 w9 (List.length_replicate) hv9 hs9 (by decide) (exSigs_sz 33) (exSigs_szm 33) ex33_may)
 have HB69 := Lib.hid (below_more HB67.out hb9)
 clear hb9 hv9 hs9
 go_wp2_with fail
 refine HSH.out.mono ?_
 rintro e wA ⟨rfl, hbA⟩
 have HB6A := Lib.hid (below_more HB69.out hbA)
 have HBA := Lib.hid (below_more HB6.out HB6A.out)
 have HVA := Lib.hid (HV6.out.keep HB6A.out)
 have HGA := Lib.hid (HG6.out.keep HB6A.out)
 obtain ⟨x0, x1, x2, x3, x4, x5, xf⟩ := b6' (BlkAt.keep HK6.out HB6A.out)
 obtain ⟨ID, hID⟩ : ∃ x, idText 97 = x := ⟨_, rfl⟩
 have hIDs : ID.size = 64 := by rw [← hID]; rfl
 have HID : Hid (∀ W, Calls Tryz.prog 12 #[.int .u8 97] W fun e w' => e = .returned (.string ID) ∧ Below W.heap.size W w') := fun W => by rw [← hID]; exact id16_any 97 W
 have hq1 : (S1.toList == (((⟨#[123, 34, 115, 105, 103, 110, 97, 116, 117, 114, 101, 115, 34, 58, 91, 123, 34, 107, 101, 121, 105, 100, 34, 58, 34]⟩ : ByteArray) ++ ID) ++ (⟨#[34, 44, 34, 115, 105, 103, 34, 58, 34, 48, 48, 102, 102, 34, 125, 93, 44, 34, 115, 105, 103, 110, 101, 100, 34, 58, 123, 34, 97, 34, 58, 49, 125, 125]⟩ : ByteArray)).toList) = true := by rw [← hID]; exact HQ1.out
 have hg0 : ID.size ≤ 64 := by omega
 have hg1 : ¬ 9223372036854775807 < 25 + ID.size := by omega
 have hg2 : ¬ 9223372036854775807 < 25 + ID.size + 34 := by omega
 have HSM : Hid (∀ (Z Y : World) (yC : VC) (aC : Option Addr) (cC : Nat), Below wA.heap.size wA Z → ValAt Z exV yC.val → SigsAt Z (.slice aC 1 cC) [exSig] → Below Z.heap.size Z Y → Calls Tryz.prog 9 #[.agg #[.int .u8 xk, .int .i64 xn, .string xt, .slice xa xl xc, .slice xb xm xe, .slice sa 1 sc], envVal yC aC 1 cC] Y fun e w' => e = .returned (.bool true) ∧ Below Y.heap.size Y w') :=
   fun Z Y yC aC cC hb hv hs hzy => same16_yes exV [exSig] ⟨xk, xn, xt, xa, xl, xc, xb, xm, xe⟩ yC sa aC 1 sc cC Y rfl (HVA.out.keep (below_more hb hzy)) (hv.keep hzy) (HGA.out.keep (below_more hb hzy)) (hs.keep hzy) (by decide)
 have HMY : Hid (∀ (Z Y : World) (yC : VC) (aC : Option Addr) (cC : Nat), ValAt Z exV yC.val → SigsAt Z (.slice aC 0 cC) [] → Below Z.heap.size Z Y → Calls Tryz.prog 10 #[envVal yC aC 0 cC] Y fun e w' => e = .returned (.bool true) ∧ Below Y.heap.size Y w') :=
   fun Z Y yC aC cC hv hs hzy => sMay_any exV [] yC aC 0 cC Y rfl (hv.keep hzy) (hs.keep hzy) (by decide) (by simp) (by simp) true ex0_may
 have HEX : Hid (∀ (k : Int) (Y : World), (decide (k = 0) || decide (k = 1)) = true → Calls Tryz.prog 11 #[.int .i64 k] Y fun e w' => ∃ (y : VC) (a : Option Addr) (c : Nat), e = .returned (envVal y a k.toNat c) ∧ Below Y.heap.size Y w' ∧ ValAt w' exV y.val ∧ SigsAt w' (.slice a k.toNat c) (List.replicate k.toNat exSig)) := fun k Y hk => by
   simp only [Bool.or_eq_true, decide_eq_true_eq] at hk
   rcases hk with rfl | rfl
   · exact ex16_bare 0 (by decide) Y
   · exact ex16_bare 1 (by decide) Y
 clear hbA HSH HB67 HB69 HB8 HK6 HV6 HG6 hID hIDs HE0 HE1 HVA HGA HE33 HNE HTE HP1 HP2 HS1 HS2 HQ1
 go_wp2_with fail
 go_region_held3 (fun w' => Below wA.heap.size wA w' ∧ w'.cell? ⟨xb6, 0, none⟩ = some (.int .u8 xk) ∧ w'.cell? ⟨xb6, 1, none⟩ = some (.int .i64 xn) ∧ w'.cell? ⟨xb6, 2, none⟩ = some (.string xt) ∧ w'.cell? ⟨xb6, 3, none⟩ = some (.slice xa xl xc) ∧ w'.cell? ⟨xb6, 4, none⟩ = some (.slice xb xm xe) ∧ w'.cell? ⟨xb6, 5, none⟩ = some (.slice sa 1 sc))
   ((refine (fun h => ⟨h, cell_keep h x0, cell_keep h x1, cell_keep h x2, cell_keep h x3, cell_keep h x4, cell_keep h x5⟩ : Below wA.heap.size wA _ → _) ?_; go_split_ands; (repeat (first | assumption | exact Below.refl _ _ | refine bel_drew ?_ | refine bel_alloc ?_ _ | refine below_more ?_ (by assumption)))))
   (first
     | (go_at_call 12; refine (HID.out _).mono ?_; rintro e wB ⟨rfl, hbB⟩; have hAB : Below wA.heap.size wA wB := below_more (by (repeat (first | refine bel_drew ?_ | exact Below.refl _ _ | assumption | refine below_more ?_ (by assumption)))) hbB)
     | (go_at_call 11; refine (HEX.out _ _ (by decide)).mono ?_; rintro e wC ⟨yC, aC, cC, rfl, hbC, hvC, hsC⟩; have hAC : Below wA.heap.size wA wC := below_more (by (repeat (first | refine bel_drew ?_ | exact Below.refl _ _ | assumption | refine below_more ?_ (by assumption)))) hbC)
     | (go_at_call 9; refine (HSM.out wC _ _ _ _ hAC hvC hsC (by (repeat (first | refine bel_drew ?_ | exact Below.refl _ _ | assumption | refine below_more ?_ (by assumption))))).mono ?_; rintro e wD ⟨rfl, hbD⟩; have hAD : Below wA.heap.size wA wD := below_more (by (repeat (first | refine bel_drew ?_ | exact Below.refl _ _ | assumption | refine below_more ?_ (by assumption)))) hbD)
     | (go_at_call 10; refine (HMY.out wC _ _ _ _ hvC hsC (by (repeat (first | refine bel_drew ?_ | exact Below.refl _ _ | assumption | refine below_more ?_ (by assumption))))).mono ?_; rintro e wF ⟨rfl, hbF⟩; have hAF : Below wA.heap.size wA wF := below_more (by (repeat (first | refine bel_drew ?_ | exact Below.refl _ _ | assumption | refine below_more ?_ (by assumption)))) hbF))
 go_wp2_with fail
 go_ret
 exact ⟨rfl, below_more HBA.out (by (repeat (first | refine bel_drew ?_ | exact Below.refl _ _ | assumption | refine below_more ?_ (by assumption))))⟩
theorem sigsV_len : ∀ l : List JV, (sigsV l).1.length ≤ l.length
 | [] => Nat.le_refl _
 | x :: r => by
   have := sigsV_len r
   rw [sigsV]
   cases sigV x with
   | bad e => exact Nat.zero_le _
   | ok s => simp only [List.length_cons]; omega
theorem env_len {s : List UInt8} {l : List SigP} {X : JV} (h : envT s = .ok (l, X)) : l.length ≤ 32 := by
 unfold envT at h
 split at h
 · cases h
 · next V ms c hr =>
   unfold envV at h
   split at h
   · cases h
   · simp only at h
     obtain ⟨t, s1, hl⟩ : ∃ t s, listQ V tSigs 32 (pickQ V) = (t, s) := ⟨_, _, rfl⟩
     rw [hl] at h
     simp only at h
     split at h
     · cases h
     · cases h
       have h1 := sigsV_len t
       rcases list_ok hl with ⟨_, -, h2⟩ | ⟨_, _, -, -, -, -, -, h2⟩
       · rw [h2]; exact Nat.zero_le _
       · omega
end
end Go.Proofs.YtmggmpigpiaagaaGreatDoor
