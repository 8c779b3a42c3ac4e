/-
 The walk of the law SignBlanks.
-/
import Derived.Test.YtmggmpigpiaagaaGreatDoorSignW
import Derived.Test.YtmggmpigpiaagaaGreatDoorReadMove
import Derived.Deep.LoopGhost
namespace Go.Proofs.YtmggmpigpiaagaaGreatDoor
set_option maxRecDepth 100000
open Go.RowKit
def four16 : ByteArray := ⟨#[32, 9, 10, 13]⟩
theorem four16_blank (k : Nat) (h : k < 4) : isBlank (four16[k]'h) = true := by
 match k, h with
 | 0, _ => rfl
 | 1, _ => rfl
 | 2, _ => rfl
 | 3, _ => rfl
theorem rep_blank16 {c : UInt8} (h : isBlank c = true) (n : Nat) : ∀ x ∈ List.replicate n c, isBlank x = true := fun x hx => by rw [(List.mem_replicate.1 hx).2]; exact h
theorem env_ahead {s b : List UInt8} (hb : ∀ c ∈ b, isBlank c = true) (hl : (b ++ s).length ≤ 65536) (hne : ∀ p e, readV s = .bad p e → e ≠ 0) : envT (b ++ s) = envT s := by
 unfold envT
 cases h : readV s with
 | bad p e => rw [ahead_bad hb hl h (hne p e h)]
 | ok V ms c =>
   obtain ⟨ms', h2⟩ := ahead_ok hb hl h
   rw [h2]
theorem env_behind {s b : List UInt8} (hb : ∀ c ∈ b, isBlank c = true) (hl : (s ++ b).length ≤ 65536) {x : List SigP × JV} (h : envT s = .ok x) : envT (s ++ b) = .ok x := by
 unfold envT at h ⊢
 cases h2 : readV s with
 | bad p e => rw [h2] at h; cases h
 | ok V ms c =>
   obtain ⟨ms', h3⟩ := behind_ok hb hl h2
   rw [h3]
   rw [h2] at h
   exact h
theorem env_ne {s : List UInt8} {er : Int} (h : envT s = .bad er) (he : er ≠ 0) : ∀ p e, readV s = .bad p e → e ≠ 0 := fun p e h2 => by
 rw [envT, h2] at h
 cases h
 exact he
set_option maxHeartbeats 16000000 in
theorem signBlanks_walk (s : ByteArray) (n wh : Int) (w : World) (w0 : s.size ≤ maxLen) (w1 : (Lit.int .u8 n).wf = true) (w2 : (Lit.int .u8 wh).wf = true) (henv : NumEnv w) :
   Calls Tryz.prog 4 #[.string s, .int .u8 n, .int .u8 wh] w fun e w' => e = .returned (.bool true) ∧ Below w.heap.size w w' := by
 unfold maxLen at w0
 have hn : 0 ≤ n ∧ n ≤ 255 := by simp [Lit.wf, IntKind.min, IntKind.max, IntKind.bits, IntKind.signed] at w1; omega
 have hwh : 0 ≤ wh ∧ wh ≤ 255 := by simp [Lit.wf, IntKind.min, IntKind.max, IntKind.bits, IntKind.signed] at w2; omega
 clear w1 w2
 have HAW := Lib.hid (fun W (hb : Below w.heap.size w W) => awake16_any W (henv.below hb) (henv.below hb).1)
 by_cases hl : 12000 < s.size
 · have hd : decide (12000 < (s.size : Int)) = true := by simp; omega
   have hd' : decide (12000 < s.size) = true := decide_eq_true hl
   go_enter Tryz.func4, Tryz.ntmps4
   go_wp2_with fail
   refine (HAW.out _ (Below.refl _ _)).mono ?_
   rintro e w3 ⟨rfl, hb3⟩
   go_wp2_with fail
   go_ret
   exact ⟨rfl, hb3⟩
 have hd : decide (12000 < (s.size : Int)) = false := by simp; omega
 have hd' : decide (12000 < s.size) = false := decide_eq_false hl
 obtain ⟨N, rfl⟩ : ∃ N : Nat, n = N := ⟨n.toNat, by omega⟩
 have hN : N ≤ 255 := by omega
 obtain ⟨k, hk, hk4⟩ : ∃ k : Nat, wh % 4 = k ∧ k < 4 := ⟨(wh % 4).toNat, by omega, by omega⟩
 have hkt : wh.tmod 4 = (k : Int) := by rw [Int.tmod_eq_emod_of_nonneg hwh.1]; exact hk
 have hk0 : (0 : Int) ≤ (k : Int) := by omega
 have hk1 : (k : Int) < 4 := by omega
 have hcb := four16_blank k hk4
 obtain ⟨cb, hcbe⟩ : ∃ cb, four16[k]'hk4 = cb := ⟨_, rfl⟩
 rw [hcbe] at hcb
 have hcbe' : (⟨#[32, 9, 10, 13]⟩ : ByteArray)[k]'hk4 = cb := hcbe
 clear hcbe
 obtain ⟨B, hB⟩ : ∃ B : ByteArray, (⟨(List.replicate N cb).toArray⟩ : ByteArray) = B := ⟨_, rfl⟩
 have hBl : B.data.toList = List.replicate N cb := by rw [← hB]
 have hBs : B.size = N := by rw [← size_len, hBl, List.length_replicate]
 have hblank : ∀ x ∈ B.data.toList, isBlank x = true := by rw [hBl]; exact rep_blank16 hcb N
 have hl2 : (B.data.toList ++ s.data.toList).length ≤ 65536 := by rw [List.length_append, size_len, size_len]; omega
 have hl3 : (s.data.toList ++ B.data.toList).length ≤ 65536 := by rw [List.length_append, size_len, size_len]; omega
 obtain ⟨R, hR⟩ : ∃ R, envT s.data.toList = R := ⟨_, rfl⟩
 have hp1 := fun W (hb : Below w.heap.size w W) => pRead_any s W (by omega) (henv.below hb)
 rw [hR] at hp1
 have HP1 := Lib.hid hp1
 have HP2 := Lib.hid (fun W (hb : Below w.heap.size w W) => pRead_any (B ++ s) W (by rw [ByteArray.size_append]; omega) (henv.below hb))
 have HP3 := Lib.hid (fun W (hb : Below w.heap.size w W) => pRead_any (s ++ B) W (by rw [ByteArray.size_append]; omega) (henv.below hb))
 have HAH : Hid (∀ er, envT s.data.toList = .bad er → er ≠ 0 → envT (B ++ s).data.toList = .bad er) := fun er h1 h2 => by rw [catL, env_ahead hblank hl2 (env_ne h1 h2), h1]
 have HOK : Hid (∀ x, envT s.data.toList = .ok x → envT (B ++ s).data.toList = .ok x ∧ envT (s ++ B).data.toList = .ok x) := fun x h1 => by
   rw [catL, catL]
   refine ⟨?_, env_behind hblank hl3 h1⟩
   rw [env_ahead hblank hl2 (fun p e h2 => by rw [envT, h2] at h1; cases h1), h1]
 rw [hR] at HAH HOK
 have hg1 : ¬ 9223372036854775807 < B.size + s.size := by omega
 have hg2 : ¬ 9223372036854775807 < s.size + B.size := by omega
 have HBL := Lib.hid hBl
 clear hR hp1
 obtain ⟨i0, hi, hz0, hz1, hz2⟩ := info_parts infoU8'
 clear hblank hl2 hl3 hcb hk hwh hBs hBl hB henv
 go_enter Tryz.func4, Tryz.ntmps4
 go_wp2_with fail
 refine (HAW.out _ (Below.refl _ _)).mono ?_
 rintro e w3 ⟨rfl, hb3⟩
 have HB3 := Lib.hid hb3
 have hmk := run_makeSlice (P := Tryz.prog) w3 35 5 i0 (.int .u8 0) Tryz.underlying35 hi hz0 .i64 .i64 N N (by omega) (Int.le_refl _) (by rw [hz1, Int.toNat_natCast]; omega) (by rw [hz2]; omega) (by omega)
 rw [hz1, Int.toNat_natCast, Nat.mul_one] at hmk
 obtain ⟨cs, hcs⟩ : ∃ cs, cs = madeCells (Value.int .u8 0).cells N := ⟨_, rfl⟩
 have hsz : cs.size = N := by rw [hcs]; exact size_madeCells _ _
 rw [← hcs] at hmk
 have HSZ := Lib.hid hsz
 have hkw : IntKind.i64.wrap (N : Int) = (N : Int) := by rw [IntWalk.i64_in (N : Int) (by omega)]
 clear hcs hsz hi hz0 hz1 hz2 hb3
 go_wp2_with fail
 have hK1 : Hid (BlkAt (w3.alloc (.cells cs 5)) w3.heap.size 5 cs) := blkAt_new w3 cs _
 have hB1 : Hid (Below w.heap.size w (w3.alloc (.cells cs 5))) := bel_alloc HB3.out _
 generalize w3.alloc (.cells cs 5) = w4 at hK1 hB1 ⊢
 obtain ⟨b, hb⟩ : ∃ b, w3.heap.size = b := ⟨_, rfl⟩
 have hwb : w.heap.size ≤ b := by rw [← hb]; exact HB3.out.size
 rw [hb] at hK1 ⊢
 clear hb hmk
 go_loopg [8] N (fun gk u wr => ∃ (i : Nat) (cr : Array Value), N - i = gk ∧ u = .int .i64 i ∧ i ≤ N ∧ Hid (cr.size = N) ∧ Hid (BlkAt wr b 5 cr) ∧ Hid (∀ j, j < i → cr[j]? = some (.int .u8 (cb.toNat : Int))) ∧ Hid (Below w.heap.size w wr))
 case atStart => exact ⟨0, cs, rfl, rfl, Nat.zero_le _, HSZ, hK1, fun j hj => by omega, hB1⟩
 case round =>
   obtain ⟨i, cr, rfl, rfl, hi, HCS, HK, HL, HB⟩ := hrel
   clear hK1 hB1 HSZ
   by_cases hlt : i < N
   · have i0 : (0 : Int) ≤ (i : Int) := by omega
     have i1 : (i : Int) < (N : Int) := by omega
     have c0 : wr.cell? ⟨b, i, none⟩ = some (cr[i]'(by rw [HCS.out]; exact hlt)) := by rw [HK.out.cell i]; exact Array.getElem?_eq_getElem _
     have f0 := HK.out.free i
     go_wp2_with fail
     go_roundg (N - (i + 1))
     case rel =>
       refine ⟨i + 1, cr.setIfInBounds i (.int .u8 (cb.toNat : Int)), rfl, by go_num, by omega, ?_, BlkAt.set HK.out i _, fun j hj => ?_, bel_set HB.out hwb _⟩
       · show _ = _
         rw [Array.size_setIfInBounds, HCS.out]
       · rw [Array.getElem?_setIfInBounds]
         by_cases e : i = j
         · rw [if_pos e, if_pos (by rw [HCS.out]; exact hlt)]
         · rw [if_neg e]; exact HL.out j (by omega)
     case measure => omega
   · have i1 : ¬ (i : Int) < (N : Int) := by omega
     obtain rfl : i = N := by omega
     have HCV : Hid (∀ W, BlkAt W b 5 cr → (⟨(List.replicate i cb).toArray⟩ : ByteArray) = B → (convert 35 9 (.slice (some ⟨b, 0, none⟩) i i)).run Tryz.prog W = .ok (.string B) W) := fun W hK e => by
       have hcv := run_convert_bytes_back (P := Tryz.prog) W 35 9 5 ⟨b, 0, none⟩ i (List.replicate i cb) Tryz.underlying35 Tryz.underlying5 Tryz.underlying9 (fun j hj => by
       rw [List.length_replicate] at hj
       have hadd : (⟨b, 0, none⟩ : Addr).add j = ⟨b, j, none⟩ := by unfold Addr.add; split <;> simp_all
       rw [hadd, (hK).cell j, HL.out j hj, List.getElem_replicate])
       rw [List.length_replicate] at hcv
       rw [← e]
       exact hcv
     have hBe : (⟨(List.replicate i cb).toArray⟩ : ByteArray) = B := by
       have := HBL.out
       rw [← this]
     have HCW : Hid (∀ W, BlkAt W b 5 cr → (convert 35 9 (.slice (some ⟨b, 0, none⟩) i i)).run Tryz.prog W = Result.ok (.string B) W) := fun W hK => HCV.out W hK hBe
     clear HCV hBe HCS HL
     go_wp2_with fail
     refine (HP1.out _ HB.out).mono ?_
     cases R with
     | bad er =>
       rintro e w5 ⟨hb5, rfl, hne⟩
       have hp2 := HP2.out
       rw [HAH.out er rfl hne] at hp2
       have HP2' := Lib.hid hp2
       have HNE : (er != 0) = true := by rw [bne_iff_ne]; exact hne
       have heq : (er == er) = true := by simp
       have HSM : Hid (∀ Y, Calls Tryz.prog 9 #[.agg #[.int .u8 0, .int .i64 0, .string ⟨#[]⟩, .slice none 0 0, .slice none 0 0, .slice none 0 0], .agg #[.int .u8 0, .int .i64 0, .string ⟨#[]⟩, .slice none 0 0, .slice none 0 0, .slice none 0 0]] Y fun e w' => e = .returned (.bool true) ∧ Below Y.heap.size Y w') :=
         fun Y => same16_yes zJ [] zC zC none none 0 0 0 Y rfl (valAt_z Y) (valAt_z Y) ⟨none, 0, rfl, fun i s h => by simp at h⟩ ⟨none, 0, rfl, fun i s h => by simp at h⟩ (by decide)
       have hbx := bel_alloc hb5 (.cells #[.int .u8 0, .int .i64 0, .string ⟨#[]⟩, .slice none 0 0, .slice none 0 0, .slice none 0 0] 29)
       have HB5 := Lib.hid (below_more HB.out hbx)
       have HK5 := Lib.hid (BlkAt.keep HK.out hbx)
       have HX5 : Hid (BlkAt (w5.alloc (.cells #[.int .u8 0, .int .i64 0, .string ⟨#[]⟩, .slice none 0 0, .slice none 0 0, .slice none 0 0] 29)) w5.heap.size 29 #[.int .u8 0, .int .i64 0, .string ⟨#[]⟩, .slice none 0 0, .slice none 0 0, .slice none 0 0]) := blkAt_new w5 _ _
       have hcv5 := HCW.out _ HK5.out
       clear hb5 hne hbx hp2 HP2 HAH HOK HP1
       simp only [zEnv]
       go_wp2_with fail
       generalize w5.alloc (.cells #[.int .u8 0, .int .i64 0, .string ⟨#[]⟩, .slice none 0 0, .slice none 0 0, .slice none 0 0] 29) = w6 at HB5 HK5 HX5 hcv5 ⊢
       generalize w5.heap.size = b5 at HX5 ⊢
       refine (HP2'.out _ HB5.out).mono ?_
       rintro e w7 ⟨hb7, rfl, -⟩
       have hby := bel_alloc hb7 (.cells #[.int .u8 0, .int .i64 0, .string ⟨#[]⟩, .slice none 0 0, .slice none 0 0, .slice none 0 0] 29)
       have HB7 := Lib.hid (below_more HB5.out hby)
       have HK7 := Lib.hid (BlkAt.keep HK5.out hby)
       have HX7 := Lib.hid (BlkAt.keep HX5.out hby)
       have HY7 : Hid (BlkAt (w7.alloc (.cells #[.int .u8 0, .int .i64 0, .string ⟨#[]⟩, .slice none 0 0, .slice none 0 0, .slice none 0 0] 29)) w7.heap.size 29 #[.int .u8 0, .int .i64 0, .string ⟨#[]⟩, .slice none 0 0, .slice none 0 0, .slice none 0 0]) := blkAt_new w7 _ _
       have hcv7 := HCW.out _ HK7.out
       clear hb7 hby hcv5 HK5 HX5
       simp only [zEnv]
       go_wp2_with fail
       generalize w7.alloc (.cells #[.int .u8 0, .int .i64 0, .string ⟨#[]⟩, .slice none 0 0, .slice none 0 0, .slice none 0 0] 29) = w8 at HB7 HK7 HX7 HY7 hcv7 ⊢
       generalize w7.heap.size = b7' at HY7 ⊢
       refine (HP3.out _ HB7.out).mono ?_
       rintro e w9 ⟨hb9, hpost⟩
       have HB9 := Lib.hid (below_more HB7.out hb9)
       have HX9 := Lib.hid (BlkAt.keep HX7.out hb9)
       have HY9 := Lib.hid (BlkAt.keep HY7.out hb9)
       clear hb9 hcv7 HK7 HX7 HY7
       cases hR3 : envT (s ++ B).data.toList with
       | bad e3 =>
         rw [hR3] at hpost
         obtain ⟨rfl, -⟩ := hpost
         clear hR3
         have HBA := Lib.hid (bel_alloc HB9.out (.cells #[.int .u8 0, .int .i64 0, .string ⟨#[]⟩, .slice none 0 0, .slice none 0 0, .slice none 0 0] 29))
         obtain ⟨x0, x1, x2, x3, x4, x5, xf⟩ := b6' (HX9.out.alloc (.cells #[.int .u8 0, .int .i64 0, .string ⟨#[]⟩, .slice none 0 0, .slice none 0 0, .slice none 0 0] 29))
         obtain ⟨y0, y1, y2, y3, y4, y5, yf⟩ := b6' (HY9.out.alloc (.cells #[.int .u8 0, .int .i64 0, .string ⟨#[]⟩, .slice none 0 0, .slice none 0 0, .slice none 0 0] 29))
         simp only [zEnv]
         go_wp2_with fail
         refine (HSM.out _).mono ?_
         rintro e wB ⟨rfl, hbB⟩
         have HBB := Lib.hid (below_more HBA.out hbB)
         clear hbB x0 x1 x2 x3 x4 x5 xf y0 y1 y2 y3 y4 y5 yf
         go_wp2_with fail
         go_ret
         exact ⟨rfl, HBB.out⟩
       | ok x3 =>
         rw [hR3] at hpost
         obtain ⟨⟨yk, yn, yt, ya, yl, yc, yb, ym, ye⟩, ta, tc, rfl, -, -⟩ := hpost
         clear hR3
         have HBA := Lib.hid (bel_alloc HB9.out (.cells #[.int .u8 yk, .int .i64 yn, .string yt, .slice ya yl yc, .slice yb ym ye, .slice ta x3.1.length tc] 29))
         obtain ⟨x0, x1, x2, x3', x4, x5, xf⟩ := b6' (HX9.out.alloc (.cells #[.int .u8 yk, .int .i64 yn, .string yt, .slice ya yl yc, .slice yb ym ye, .slice ta x3.1.length tc] 29))
         obtain ⟨y0, y1, y2, y3, y4, y5, yf⟩ := b6' (HY9.out.alloc (.cells #[.int .u8 yk, .int .i64 yn, .string yt, .slice ya yl yc, .slice yb ym ye, .slice ta x3.1.length tc] 29))
         simp only [envVal]
         go_wp2_with fail
         refine (HSM.out _).mono ?_
         rintro e wB ⟨rfl, hbB⟩
         have HBB := Lib.hid (below_more HBA.out hbB)
         clear hbB x0 x1 x2 x3' x4 x5 xf y0 y1 y2 y3 y4 y5 yf
         go_wp2_with fail
         go_ret
         exact ⟨rfl, HBB.out⟩
     | ok x =>
       obtain ⟨l, X⟩ := x
       obtain ⟨hq2, hq3⟩ := HOK.out (l, X) rfl
       have hp2 := HP2.out
       have hp3 := HP3.out
       rw [hq2] at hp2
       rw [hq3] at hp3
       have HP2' := Lib.hid hp2
       have HP3' := Lib.hid hp3
       have hl1000 : l.length ≤ 1000 := by have := env_len hq2; omega
       obtain ⟨n, hn⟩ : ∃ n, l.length = n := ⟨_, rfl⟩
       rw [hn] at hl1000
       have HN := Lib.hid hn
       rintro e w5 ⟨hb5, ⟨xk, xn, xt, xa, xl, xc, xb, xm, xe⟩, sxa, sxc, rfl, hv5, hs5⟩
       simp only [hn] at hs5 ⊢
       have hbx := bel_alloc (Below.refl w5.heap.size w5) (.cells #[.int .u8 xk, .int .i64 xn, .string xt, .slice xa xl xc, .slice xb xm xe, .slice sxa n sxc] 29)
       have hby := below_more hb5 hbx
       have HB5 := Lib.hid (below_more HB.out hby)
       have HK5 := Lib.hid (BlkAt.keep HK.out hby)
       have HX5 : Hid (BlkAt (w5.alloc (.cells #[.int .u8 xk, .int .i64 xn, .string xt, .slice xa xl xc, .slice xb xm xe, .slice sxa n sxc] 29)) w5.heap.size 29 #[.int .u8 xk, .int .i64 xn, .string xt, .slice xa xl xc, .slice xb xm xe, .slice sxa n sxc]) := blkAt_new w5 _ _
       have HV5 := Lib.hid (hv5.bare.keep hbx)
       have HS5 : Hid (SigsAt (w5.alloc (.cells #[.int .u8 xk, .int .i64 xn, .string xt, .slice xa xl xc, .slice xb xm xe, .slice sxa n sxc] 29)) (.slice sxa n sxc) l) := SigsAt.keep (hs5.imp fun p u hu => ((hidden_cell _ _ _ _).1 hu).2.2) hbx
       have hcv5 := HCW.out _ HK5.out
       clear hb5 hbx hby hv5 hs5 hp2 hp3 hq2 hq3 HP2 HP3 HAH HOK HP1 hn
       simp only [envVal]
       go_wp2_with fail
       generalize w5.alloc (.cells #[.int .u8 xk, .int .i64 xn, .string xt, .slice xa xl xc, .slice xb xm xe, .slice sxa n sxc] 29) = w6 at HB5 HK5 HX5 HV5 HS5 hcv5 ⊢
       generalize w5.heap.size = bx at HX5 ⊢
       refine (HP2'.out _ HB5.out).mono ?_
       rintro e w7 ⟨hb7, ⟨yk, yn, yt, ya, yl, yc, yb, ym, ye⟩, sya, syc, rfl, hv7, hs7⟩
       simp only [HN.out] at hs7 ⊢
       have hbx := bel_alloc (Below.refl w7.heap.size w7) (.cells #[.int .u8 yk, .int .i64 yn, .string yt, .slice ya yl yc, .slice yb ym ye, .slice sya n syc] 29)
       have hby := below_more hb7 hbx
       have HB7 := Lib.hid (below_more HB5.out hby)
       have HK7 := Lib.hid (BlkAt.keep HK5.out hby)
       have HX7 := Lib.hid (BlkAt.keep HX5.out hby)
       have HY7 : Hid (BlkAt (w7.alloc (.cells #[.int .u8 yk, .int .i64 yn, .string yt, .slice ya yl yc, .slice yb ym ye, .slice sya n syc] 29)) w7.heap.size 29 #[.int .u8 yk, .int .i64 yn, .string yt, .slice ya yl yc, .slice yb ym ye, .slice sya n syc]) := blkAt_new w7 _ _
       have HV7 := Lib.hid (HV5.out.keep hby)
       have HS7 := Lib.hid (HS5.out.keep hby)
       have HU7 := Lib.hid (hv7.bare.keep hbx)
       have HT7 : Hid (SigsAt (w7.alloc (.cells #[.int .u8 yk, .int .i64 yn, .string yt, .slice ya yl yc, .slice yb ym ye, .slice sya n syc] 29)) (.slice sya n syc) l) := SigsAt.keep (hs7.imp fun p u hu => ((hidden_cell _ _ _ _).1 hu).2.2) hbx
       have hcv7 := HCW.out _ HK7.out
       clear hb7 hbx hby hv7 hs7 hcv5 HK5 HX5 HV5 HS5
       simp only [envVal]
       go_wp2_with fail
       generalize w7.alloc (.cells #[.int .u8 yk, .int .i64 yn, .string yt, .slice ya yl yc, .slice yb ym ye, .slice sya n syc] 29) = w8 at HB7 HK7 HX7 HY7 HV7 HS7 HU7 HT7 hcv7 ⊢
       generalize w7.heap.size = byy at HY7 ⊢
       refine (HP3'.out _ HB7.out).mono ?_
       rintro e w9 ⟨hb9, ⟨zk, zn, zt, za, zl, zc, zb, zm, ze⟩, sza, szc, rfl, hv9, hs9⟩
       simp only [HN.out] at hs9 ⊢
       have hbx := bel_alloc (Below.refl w9.heap.size w9) (.cells #[.int .u8 zk, .int .i64 zn, .string zt, .slice za zl zc, .slice zb zm ze, .slice sza n szc] 29)
       have hby := below_more hb9 hbx
       have HB9 := Lib.hid (below_more HB7.out hby)
       have HX9 := Lib.hid (BlkAt.keep HX7.out hby)
       have HY9 := Lib.hid (BlkAt.keep HY7.out hby)
       have HZ9 : Hid (BlkAt (w9.alloc (.cells #[.int .u8 zk, .int .i64 zn, .string zt, .slice za zl zc, .slice zb zm ze, .slice sza n szc] 29)) w9.heap.size 29 #[.int .u8 zk, .int .i64 zn, .string zt, .slice za zl zc, .slice zb zm ze, .slice sza n szc]) := blkAt_new w9 _ _
       have HV9 := Lib.hid (HV7.out.keep hby)
       have HS9 := Lib.hid (HS7.out.keep hby)
       have HU9 := Lib.hid (HU7.out.keep hby)
       have HT9 := Lib.hid (HT7.out.keep hby)
       have HV9' := Lib.hid (hv9.bare.keep hbx)
       have HS9' : Hid (SigsAt (w9.alloc (.cells #[.int .u8 zk, .int .i64 zn, .string zt, .slice za zl zc, .slice zb zm ze, .slice sza n szc] 29)) (.slice sza n szc) l) := SigsAt.keep (hs9.imp fun p u hu => ((hidden_cell _ _ _ _).1 hu).2.2) hbx
       clear hb9 hbx hby hv9 hs9 hcv7 HK7 HX7 HY7 HV7 HS7 HU7 HT7
       simp only [envVal]
       obtain ⟨x0, x1, x2, x3, x4, x5, xf⟩ := b6' HX9.out
       obtain ⟨y0, y1, y2, y3, y4, y5, yf⟩ := b6' HY9.out
       go_wp2_with fail
       generalize w9.alloc (.cells #[.int .u8 zk, .int .i64 zn, .string zt, .slice za zl zc, .slice zb zm ze, .slice sza n szc] 29) = wA at HB9 HX9 HY9 HZ9 HV9 HS9 HU9 HT9 HV9' HS9' x0 x1 x2 x3 x4 x5 xf y0 y1 y2 y3 y4 y5 yf ⊢
       generalize w9.heap.size = bz at HZ9 ⊢
       have hsm := same16_yes X l ⟨xk, xn, xt, xa, xl, xc, xb, xm, xe⟩ ⟨yk, yn, yt, ya, yl, yc, yb, ym, ye⟩ sxa sya n sxc syc wA HN.out HV9.out HU9.out HS9.out HT9.out hl1000
       simp only [envVal] at hsm
       have HSM := Lib.hid hsm
       clear hsm
       refine HSM.out.mono ?_
       rintro e wB ⟨rfl, hbB⟩
       have HBB := Lib.hid (below_more HB9.out hbB)
       have hsm := same16_yes X l ⟨xk, xn, xt, xa, xl, xc, xb, xm, xe⟩ ⟨zk, zn, zt, za, zl, zc, zb, zm, ze⟩ sxa sza n sxc szc wB HN.out (HV9.out.keep hbB) (HV9'.out.keep hbB) (HS9.out.keep hbB) (HS9'.out.keep hbB) hl1000
       simp only [envVal] at hsm
       have HSM2 := Lib.hid hsm
       obtain ⟨x0, x1, x2, x3, x4, x5, xf⟩ := b6' (BlkAt.keep HX9.out hbB)
       obtain ⟨z0, z1, z2, z3, z4, z5, zf⟩ := b6' (BlkAt.keep HZ9.out hbB)
       clear hsm hbB
       go_wp2_with fail
       refine HSM2.out.mono ?_
       rintro e wC ⟨rfl, hbC⟩
       have HBC := Lib.hid (below_more HBB.out hbC)
       clear hbC
       go_wp2_with fail
       go_ret
       exact ⟨rfl, HBC.out⟩
end Go.Proofs.YtmggmpigpiaagaaGreatDoor
