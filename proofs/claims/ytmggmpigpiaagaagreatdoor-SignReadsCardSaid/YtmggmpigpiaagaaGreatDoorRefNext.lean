/-
  The document's Show: it writes the same text as strconv does.
  The document's Read: it answers as num.Read does.
  legateref07: word, Next: the mark that stands at a place of a text, by the document's words.
-/
import Derived.Test.YtmggmpigpiaagaaGreatDoorLexPlain
import Derived.Test.YtmggmpigpiaagaaGreatDoorRefText
import Derived.Test.YtmggmpigpiaagaaGreatDoorRefPick
namespace Go.Proofs.YtmggmpigpiaagaaGreatDoor
section
set_option maxRecDepth 100000
open Go.RowKit
theorem conv_one (w : World) (x : Int) : (convert 35 9 (.slice (some ⟨w.heap.size, 0, none⟩) 1 1)).run Tryz.prog (w.alloc (.cells #[.int .u8 x] 5)) = .ok (.string (Go.strOfNums [x])) (w.alloc (.cells #[.int .u8 x] 5)) := by
 refine run_convert_bytes_arg _ 35 5 Tryz.underlying35 Tryz.underlying5 _ 0 1 1 [x] rfl (fun i hi => ?_) _ Tryz.underlying9
 obtain rfl : i = 0 := by omega
 exact cell_one_new _ _ _ 0 _ rfl
theorem tmod_abs (m : Int) : (0 ≤ m ∧ m.tmod 10 = (m.natAbs % 10 : Nat) ∧ m.tdiv 10 = (m.natAbs / 10 : Nat)) ∨ (m < 0 ∧ m.tmod 10 = -((m.natAbs % 10 : Nat) : Int) ∧ m.tdiv 10 = -((m.natAbs / 10 : Nat) : Int)) := by
 by_cases h : 0 ≤ m
 · left
   obtain ⟨n, rfl⟩ := Int.eq_ofNat_of_zero_le h
   refine ⟨h, ?_, ?_⟩
   · rw [Int.tmod_eq_emod_of_nonneg h]; simp
   · rw [Int.tdiv_eq_ediv_of_nonneg h]; simp
 · right
   obtain ⟨n, hn⟩ := Int.eq_ofNat_of_zero_le (show 0 ≤ -m by omega)
   obtain rfl : m = -(n : Int) := by omega
   refine ⟨by omega, ?_, ?_⟩
   · rw [Int.neg_tmod, Int.tmod_eq_emod_of_nonneg (by omega)]; simp
   · rw [Int.neg_tdiv, Int.tdiv_eq_ediv_of_nonneg (by omega)]; simp
theorem tmod_bd (m : Int) : -9 ≤ m.tmod 10 ∧ m.tmod 10 ≤ 9 := by
 rcases tmod_abs m with ⟨_, h, _⟩ | ⟨_, h, _⟩ <;> rw [h] <;> omega
theorem nd_le : ∀ (k u : Nat), u < 10 ^ (k + 1) → Lib.nDigits u ≤ k + 1
 | 0, u, h => by rw [Lib.nDigits_small (by simpa using h)]; exact Nat.le_refl _
 | k + 1, u, h => by
   by_cases hs : u < 10
   · rw [Lib.nDigits_small hs]; omega
   · rw [Lib.nDigits_big hs]
     have := nd_le k (u / 10) (by rw [Nat.pow_succ] at h; omega)
     omega
def ShowInv (N m : Int) (u : List UInt8) : Prop :=
 (N < 0 → m ≤ 0) ∧ (0 ≤ N → 0 ≤ m) ∧ ((u = [] ∧ m = N) ∨ (u ≠ [] ∧ ((m = 0 ∧ u = Lib.decDigits N.natAbs) ∨ (m ≠ 0 ∧ Lib.decDigits m.natAbs ++ u = Lib.decDigits N.natAbs))))
def digitOf (m : Int) : UInt8 := UInt8.ofNat (48 + m.natAbs % 10)
theorem showInv_step {N m : Int} {u : List UInt8} (h : ShowInv N m u) (hc : u = [] ∨ m ≠ 0) : ShowInv N (m.tdiv 10) (digitOf m :: u) := by
 obtain ⟨s1, s2, h⟩ := h
 have hcat : Lib.decDigits m.natAbs ++ u = Lib.decDigits N.natAbs := by
   rcases h with ⟨rfl, rfl⟩ | ⟨hu, ⟨rfl, h⟩ | ⟨_, h⟩⟩
   · simp
   · rcases hc with h' | h'
     · exact absurd h' hu
     · exact absurd rfl h'
   · exact h
 have ha : (m.tdiv 10).natAbs = m.natAbs / 10 := by
   rcases tmod_abs m with ⟨_, _, h⟩ | ⟨_, _, h⟩ <;> rw [h] <;> omega
 refine ⟨fun hn => ?_, fun hn => ?_, Or.inr ⟨by simp, ?_⟩⟩
 · have := s1 hn
   rcases tmod_abs m with ⟨_, _, h⟩ | ⟨_, _, h⟩ <;> rw [h] <;> omega
 · have := s2 hn
   rcases tmod_abs m with ⟨_, _, h⟩ | ⟨_, _, h⟩ <;> rw [h] <;> omega
 · by_cases hs : m.natAbs < 10
   · left
     refine ⟨by omega, ?_⟩
     rw [Lib.decDigits_one hs] at hcat
     rw [← hcat, digitOf, Nat.mod_eq_of_lt hs]; rfl
   · right
     refine ⟨by omega, ?_⟩
     rw [Lib.decDigits, dif_neg hs] at hcat
     rw [ha, ← hcat, digitOf, List.append_assoc]; rfl
theorem showInv_len {N m : Int} {u : List UInt8} (h0 : -9223372036854775808 ≤ N) (h1 : N ≤ 9223372036854775807) (h : ShowInv N m u) : u.length ≤ 20 := by
 have hl : (Lib.decDigits N.natAbs).length ≤ 20 := by
   rw [Lib.decDigits_length]
   exact Nat.le_trans (nd_le 18 N.natAbs (by omega)) (by decide)
 obtain ⟨_, _, h⟩ := h
 rcases h with ⟨rfl, rfl⟩ | ⟨hu, ⟨rfl, rfl⟩ | ⟨_, h⟩⟩
 · simp
 · exact hl
 · rw [← h, List.length_append] at hl; omega
theorem showInv_end {N m : Int} {u : List UInt8} (h : ShowInv N m u) (hu : u ≠ []) (hm : m = 0) : Lib.itoa N = if N < 0 then 45 :: u else u := by
 obtain ⟨_, _, h⟩ := h
 have : u = Lib.decDigits N.natAbs := by
   rcases h with ⟨h, _⟩ | ⟨_, ⟨_, h⟩ | ⟨h, _⟩⟩
   · exact absurd h hu
   · exact h
   · exact absurd hm h
 rw [Lib.itoa, this]
 by_cases hn : N < 0
 · rw [if_pos hn, if_pos hn]
 · rw [if_neg hn, if_neg hn, show N.toNat = N.natAbs by omega]
theorem digit_neg {m : Int} {u : List UInt8} (h : m.tmod 10 < 0) : strOfNums [48 + -m.tmod 10] ++ ⟨u.toArray⟩ = ⟨(digitOf m :: u).toArray⟩ := by
 have e : 48 + -m.tmod 10 = ((48 + m.natAbs % 10 : Nat) : Int) := by
   rcases tmod_abs m with ⟨_, h', _⟩ | ⟨_, h', _⟩ <;> rw [h'] at h ⊢ <;> omega
 rw [e]; rfl
theorem digit_pos {m : Int} {u : List UInt8} (h : 0 ≤ m.tmod 10) : strOfNums [48 + m.tmod 10] ++ ⟨u.toArray⟩ = ⟨(digitOf m :: u).toArray⟩ := by
 have e : 48 + m.tmod 10 = ((48 + m.natAbs % 10 : Nat) : Int) := by
   rcases tmod_abs m with ⟨_, h', _⟩ | ⟨_, h', _⟩ <;> rw [h'] at h ⊢ <;> omega
 rw [e]; rfl
theorem tdiv_bd {m : Int} (h0 : -9223372036854775808 ≤ m) (h1 : m ≤ 9223372036854775807) : -9223372036854775808 ≤ m.tdiv 10 ∧ m.tdiv 10 ≤ 9223372036854775807 ∧ ((m.tdiv 10).natAbs < m.natAbs ∨ m.tdiv 10 = 0) := by
 rcases tmod_abs m with ⟨_, _, h⟩ | ⟨_, _, h⟩ <;> rw [h] <;> omega
set_option maxHeartbeats 400000 in
theorem refShow_any (N : Int) (h0 : -9223372036854775808 ≤ N) (h1 : N ≤ 9223372036854775807) (w : World) (r : List UInt8) (hr : Hid (Lib.itoa N = r)) :
   Calls Tryz.prog 125 #[.int .i64 N] w fun e w' => e = .returned (.string ⟨r.toArray⟩) ∧ Below w.heap.size w w' := by
 have hcv := conv_one
 have hz : ∀ x : Int, (strOfNums [x]).size = 1 := fun _ => rfl
 go_enter Tryz.func125, Tryz.ntmps125
 go_wp2
 go_loopw [0, 3, 5] (fun n s i wr => ∃ (m : Int) (u : List UInt8), n = .int .i64 m ∧ s = .string ⟨u.toArray⟩ ∧ i = .int .i64 (u.length : Int) ∧ -9223372036854775808 ≤ m ∧ m ≤ 9223372036854775807 ∧ u.length ≤ 20 ∧ ShowInv N m u ∧ Below w.heap.size w wr) (fun n _ i _ => (intOf n).natAbs + (1 - (intOf i).toNat))
 case atStart => exact ⟨N, [], rfl, rfl, rfl, h0, h1, by simp, ⟨by omega, by omega, Or.inl ⟨rfl, rfl⟩⟩, Below.refl _ _⟩
 case round =>
   obtain ⟨m, u, rfl, rfl, rfl, hm0, hm1, hu, hinv, hB⟩ := hrel
   have hs := hB.size
   obtain ⟨hd1, hd2⟩ := tmod_bd m
   by_cases hul : u.length = 0
   · obtain rfl := List.length_eq_zero_iff.1 hul
     clear hul
     have hst := showInv_step hinv (Or.inl rfl)
     obtain ⟨b1, b2, b3⟩ := tdiv_bd hm0 hm1
     go_wp2
     · refine ⟨⟨_, digitOf m :: [], rfl, congrArg Value.string (digit_neg (by assumption)), rfl, b1, b2, by simp, hst, hB.alloc hs _⟩, ?_⟩
       simp only [intOf, List.length_nil]; omega
     · refine ⟨⟨_, digitOf m :: [], rfl, congrArg Value.string (digit_pos (by assumption)), rfl, b1, b2, by simp, hst, hB.alloc hs _⟩, ?_⟩
       simp only [intOf, List.length_nil]; omega
   · have hu0 : ((u.length : Int) == 0) = false := beq_eq_false_iff_ne.2 (by omega)
     by_cases hm : m = 0
     · have hmb : (m != 0) = false := by simp [hm]
       have he := showInv_end hinv (by intro h; exact hul (by rw [h]; rfl)) hm
       have HE := Lib.hid (he.symm.trans hr.out)
       clear hm he
       by_cases hN : N < 0
       · go_wp2
         go_ret
         refine ⟨?_, hB⟩
         rw [← HE.out, if_pos hN]; rfl
       · go_wp2
         go_ret
         refine ⟨?_, hB⟩
         rw [← HE.out, if_neg (by omega)]; rfl
     · have hmb : (m != 0) = true := by simp [hm]
       have hst := showInv_step hinv (Or.inr hm)
       have hl := showInv_len h0 h1 hst
       obtain ⟨b1, b2, b3⟩ := tdiv_bd hm0 hm1
       have HM := Lib.hid hm
       clear hm
       go_wp2
       · refine ⟨⟨_, digitOf m :: u, rfl, congrArg Value.string (digit_neg (by assumption)), by simp, b1, b2, hl, hst, hB.alloc hs _⟩, ?_⟩
         have := HM.out
         simp only [intOf]; omega
       · refine ⟨⟨_, digitOf m :: u, rfl, congrArg Value.string (digit_pos (by assumption)), by simp, b1, b2, hl, hst, hB.alloc hs _⟩, ?_⟩
         have := HM.out
         simp only [intOf]; omega
end

section
set_option maxRecDepth 100000
open Go.RowKit
set_option maxHeartbeats 1000000 in
theorem of_any (c : UInt8) (w : World) (r : Bool) (hr : Hid (Nm.isN c = r)) :
   Calls Tryz.prog 123 #[.int .u8 (c.toNat : Int)] w fun e w' => e = .returned (.bool r) ∧ w = w' := by
 go_enter Tryz.func123, Tryz.ntmps123
 go_wp2
 all_goals
   go_ret
   refine ⟨ret_bool ?_, rfl⟩
   rw [← hr.out, Bool.eq_iff_iff]
   simp [Nm.isN, Nm.dg]
   try omega
theorem dv_big : ∀ (l : List UInt8) (a n : Nat), l.length = n → a * 10 ^ n ≤ Nm.dv a l
 | [], a, n, h => by subst h; simp [Nm.dv]
 | c :: r, a, n, h => by
   subst h
   have := dv_big r (a * 10 + (c.toNat - 48)) r.length rfl
   show a * 10 ^ (r.length + 1) ≤ Nm.dv (a * 10 + (c.toNat - 48)) r
   refine Nat.le_trans ?_ this
   rw [Nat.pow_succ, Nat.mul_comm (10 ^ r.length) 10, ← Nat.mul_assoc]
   exact Nat.mul_le_mul_right _ (by omega)
theorem val_long {t : List UInt8} (hf : Nm.form t = true) (hl : 20 < t.length) : ¬ (-9223372036854775808 ≤ Nm.val t ∧ Nm.val t ≤ 9223372036854775807) := by
 obtain ⟨h1, h2, h3⟩ := Nm.form_parts hf
 have h4 : (Nm.body t).head?.map (·.toNat) ≠ some 48 := by
   rcases h3 with h | h
   · subst h; simp at hl
   · exact h
 have hb : 20 ≤ (Nm.body t).length := by
   by_cases hn : t.head?.map (·.toNat) = some 45
   · rw [Nm.body_neg hn, List.length_tail]; omega
   · rw [Nm.body_pos hn]; omega
 have hv : 9223372036854775808 < Nm.dv 0 (Nm.body t) := by
   match hbt : Nm.body t with
   | [] => exact absurd hbt h1
   | c :: r =>
     rw [hbt] at h2 h4 hb
     simp only [List.all_cons, Bool.and_eq_true] at h2
     have hc := (Nm.dg_iff c).1 h2.1
     have hc8 : c.toNat ≠ 48 := fun h => h4 (by simp [h])
     have hp := dv_big r (c.toNat - 48) r.length rfl
     have e : Nm.dv 0 (c :: r) = Nm.dv (c.toNat - 48) r := by show Nm.dv (0 * 10 + (c.toNat - 48)) r = _; rw [Nat.zero_mul, Nat.zero_add]
     rw [e]
     have h19 : 10 ^ 19 ≤ 10 ^ r.length := Nat.pow_le_pow_right (by decide) (by simp at hb; omega)
     have : 1 * 10 ^ 19 ≤ (c.toNat - 48) * 10 ^ r.length := Nat.mul_le_mul (by omega) h19
     omega
 by_cases hn : t.head?.map (·.toNat) = some 45
 · rw [Nm.body_neg hn] at hv
   rw [Nm.val, if_pos hn]; omega
 · rw [Nm.body_pos hn] at hv
   rw [Nm.val, if_neg hn]; omega
theorem wrap_mul_add (m V d : Int) (h : m = wrap64 V) : wrap64 (wrap64 (10 * m) + d) = wrap64 (10 * V + d) := by
 subst h; unfold wrap64; omega
theorem wrap_mul_sub (m V d : Int) (h : m = wrap64 V) : wrap64 (wrap64 (10 * m) - d) = wrap64 (10 * V - d) := by
 subst h; unfold wrap64; omega
theorem zero_wrap : (0 : Int) = wrap64 0 := by unfold wrap64; omega
theorem head_take {t : List UInt8} {j : Nat} (h : 0 < j) : (t.take j).head? = t.head? := by
 cases t with
 | nil => simp
 | cons c r => obtain ⟨j, rfl⟩ : ∃ i, j = i + 1 := ⟨j - 1, by omega⟩; rfl
theorem take_one_more {t : List UInt8} {j : Nat} {c : UInt8} (hc : t[j]? = some c) : t.take (j + 1) = t.take j ++ [c] := by
 rw [List.take_add_one, hc]; rfl
theorem val_step {t : List UInt8} (hf : Nm.form t = true) {j : Nat} {c : UInt8} (hc : t[j]? = some c) :
   (c.toNat = 45 → Nm.val (t.take (j + 1)) = Nm.val (t.take j)) ∧
   (c.toNat ≠ 45 → 48 ≤ c.toNat ∧ c.toNat ≤ 57 ∧ Nm.val (t.take (j + 1)) = if t.head?.map (·.toNat) = some 45 then 10 * Nm.val (t.take j) - ((c.toNat : Int) - 48) else 10 * Nm.val (t.take j) + ((c.toNat : Int) - 48)) := by
 obtain ⟨h1, h2, h3⟩ := Nm.form_parts hf
 have hd : ∀ x ∈ Nm.body t, 48 ≤ x.toNat ∧ x.toNat ≤ 57 := fun x hx => (Nm.dg_iff x).1 (List.all_eq_true.1 h2 x hx)
 by_cases hn : t.head?.map (·.toNat) = some 45
 · rw [Nm.body_neg hn] at hd
   match t, hn with
   | b :: r, hn =>
     match j with
     | 0 =>
       simp at hc hn
       subst hc
       refine ⟨fun _ => ?_, fun h => absurd hn h⟩
       simp [Nm.val, hn, Nm.dv]
     | j + 1 =>
       simp at hc
       have hm := hd c (List.mem_of_getElem? hc)
       refine ⟨fun h => by omega, fun _ => ⟨hm.1, hm.2, ?_⟩⟩
       simp at hn
       have e1 : Nm.val ((b :: r).take (j + 1 + 1)) = -(Nm.dv 0 (r.take (j + 1)) : Int) := by simp [Nm.val, hn]
       have e2 : Nm.val ((b :: r).take (j + 1)) = -(Nm.dv 0 (r.take j) : Int) := by simp [Nm.val, hn]
       rw [e1, e2, if_pos (by simp [hn]), take_one_more hc, Nm.dv_snoc]
       omega
 · rw [Nm.body_pos hn] at hd
   have hm := hd c (List.mem_of_getElem? hc)
   refine ⟨fun h => by omega, fun _ => ⟨hm.1, hm.2, ?_⟩⟩
   have e1 : ∀ i, Nm.val (t.take i) = (Nm.dv 0 (t.take i) : Int) := fun i => by
     by_cases hi : 0 < i
     · rw [Nm.val, if_neg (by rw [head_take hi]; exact hn)]
     · obtain rfl : i = 0 := by omega
       rfl
   rw [if_neg hn, e1, e1, take_one_more hc, Nm.dv_snoc]
   omega
theorem getElem_of (s : ByteArray) {l : List UInt8} (hl : s.data.toList = l) (j : Nat) (h : j < s.size) : l[j]? = some s[j] := by
 subst hl; exact Lib.data_getElem? s j h
theorem wrap_out {V : Int} (h : wrap64 V = V) : -9223372036854775808 ≤ V ∧ V ≤ 9223372036854775807 := by unfold wrap64 at h; omega
theorem wrap_bd (V : Int) : -9223372036854775808 ≤ wrap64 V ∧ wrap64 V ≤ 9223372036854775807 := by unfold wrap64; omega
set_option maxHeartbeats 1000000 in
theorem refRead_in (s : ByteArray) (a : Nat) (w : World) (hs : s.size ≤ 281474976710656) (ha : a ≤ s.size) (r1 r2 r3 : Int) (hr : Hid (readP s.data.toList a = (r1, r2, r3))) :
   Calls Tryz.prog 94 #[.string s, .int .i64 a] w fun e w' => e = .returned (.tuple #[.int .i64 r1, .int .i64 r2, .int .i64 r3]) ∧ Below w.heap.size w w' := by
 have hd1 : decide ((a : Int) < 0) = false := by simp
 have hd2 : decide (s.size < a) = false := by simp; omega
 go_enter Tryz.func94, Tryz.ntmps94
 go_wp2
 go_loop [7] (fun i => ∃ k : Nat, k ≤ s.size ∧ a ≤ k ∧ i = .int .i64 k ∧ Hid (((s.data.toList.drop a).take (k - a)).all Nm.isN = true)) (fun i => s.size - (intOf i).toNat)
 case atStart => exact ⟨a, ha, Nat.le_refl _, rfl, by simp [Hid]⟩
 case round =>
   obtain ⟨k, hk, hak, rfl, HA⟩ := hrel
   by_cases hlt : k < s.size
   · by_cases hN : Nm.isN s[k] = true
     · have HN := Lib.hid hN
       clear hN
       go_wp2_with fail
       refine (of_any s[k] _ true HN).mono ?_
       rintro e w' ⟨rfl, rfl⟩
       go_wp2_with fail
       refine ⟨⟨k + 1, by omega, by omega, by go_num, Nm.run_step rfl hlt hak HA.out HN.out⟩, ?_⟩
       simp [intOf]; omega
     · have HS : Hid (Nm.run s.data.toList a = (s.data.toList.drop a).take (k - a)) := Nm.run_stop rfl hak HA.out (fun _ => by simpa using hN)
       go_wp2_with fail
       refine (of_any s[k] _ false (show Nm.isN s[k] = false by simpa using hN)).mono ?_
       rintro e w' ⟨rfl, rfl⟩
       go_wp2_with fail
       refine (Form_any _ _ ?_).mono ?_
       · rw [ByteArray.size_extract]; unfold maxLen; omega
       rintro e w' ⟨rfl, rfl⟩
       have hx : (s.extract a k).data.toList = Nm.run s.data.toList a := by rw [Lib.extract_data, HS.out]
       have hxl : (Nm.run s.data.toList a).length = k - a := by rw [HS.out, List.length_take, List.length_drop, size_len]; omega
       rw [hx]
       have HX := Lib.hid hx
       have HL := Lib.hid hxl
       clear hx hxl
       have hl : a ≤ s.data.toList.length := by rw [size_len]; exact ha
       have hR := Lib.hid (hr.out.symm.trans (readP_in hl))
       clear hl hr HS HA
       by_cases hf : Nm.form (Nm.run s.data.toList a) = true
       · have hff : ¬ Nm.form (Nm.run s.data.toList a) = false := by simp [hf]
         by_cases h20 : k - a ≤ 20
         · have hpos : 0 < k - a := by
             rw [← HL.out]
             exact List.length_pos_iff.2 (by intro h; rw [h] at hf; exact absurd hf (by decide))
           have hts : (s.extract a k).size = k - a := by rw [ByteArray.size_extract]; omega
           have h0t : 0 < (s.extract a k).size := by omega
           have HT := Lib.hid hts
           clear hts
           obtain ⟨b, hb⟩ : ∃ b : Bool, (((s.extract a k)[0].toNat : Int) == 45) = b := ⟨_, rfl⟩
           have HB : Hid ((Nm.run s.data.toList a).head?.map (·.toNat) = some 45 ↔ b = true) := by
             show _ ↔ _
             rw [← hb, ← HX.out, head_at _ h0t]; simp; omega
           go_wp2_with fail
           go_loop [9, 10] (fun n i => ∃ (j : Nat) (m : Int), j ≤ k - a ∧ i = .int .i64 j ∧ n = .int .i64 m ∧ Hid (m = wrap64 (Nm.val ((Nm.run s.data.toList a).take j)))) (fun _ i => k - a - (intOf i).toNat)
           case atStart => exact ⟨0, 0, Nat.zero_le _, rfl, rfl, zero_wrap⟩
           case round =>
             obtain ⟨j, m, hj, rfl, rfl, HM⟩ := hrel
             by_cases hjl : j < k - a
             · have hjt : j < (s.extract a k).size := by rw [HT.out]; exact hjl
               obtain ⟨v1, v2⟩ := val_step hf (getElem_of _ HX.out j hjt)
               by_cases h45 : (s.extract a k)[j].toNat = 45
               · have hb45 : (((s.extract a k)[j].toNat : Int) == 45) = true := by rw [h45]; rfl
                 have HV := Lib.hid (v1 h45)
                 clear v1 v2 h45
                 go_wp2_with fail
                 refine ⟨⟨j + 1, m, by omega, by go_num, rfl, by rw [HV.out]; exact HM⟩, ?_⟩
                 simp [intOf]; omega
               · have hb45 : (((s.extract a k)[j].toNat : Int) == 45) = false := beq_eq_false_iff_ne.2 (by omega)
                 obtain ⟨d1, d2, hv⟩ := v2 h45
                 have d1' : 48 ≤ ((s.extract a k)[j].toNat : Int) := by omega
                 have d2' : ((s.extract a k)[j].toNat : Int) ≤ 57 := by omega
                 have HV := Lib.hid hv
                 clear v1 v2 h45 hv d1 d2
                 cases b with
                 | true =>
                   go_wp2_with fail
                   refine ⟨⟨j + 1, _, by omega, by go_num, rfl, ?_⟩, ?_⟩
                   · rw [HV.out, if_pos (HB.out.2 rfl)]; exact wrap_mul_sub _ _ _ HM.out
                   · simp [intOf]; omega
                 | false =>
                   go_wp2_with fail
                   refine ⟨⟨j + 1, _, by omega, by go_num, rfl, ?_⟩, ?_⟩
                   · rw [HV.out, if_neg (by rw [HB.out]; decide)]; exact wrap_mul_add _ _ _ HM.out
                   · simp [intOf]; omega
             · have hjk : j = (Nm.run s.data.toList a).length := by rw [HL.out]; omega
               have hm : m = wrap64 (Nm.val (Nm.run s.data.toList a)) := by rw [HM.out, hjk, List.take_length]
               have HM2 := Lib.hid hm
               have HJ := Lib.hid hjk
               clear hm hjk HM
               have hb1 := wrap_bd (Nm.val (Nm.run s.data.toList a))
               rw [← HM2.out] at hb1
               obtain ⟨hb1, hb2⟩ := hb1
               go_wp2_with fail
               refine (refShow_any m hb1 hb2 _ _ rfl).mono ?_
               rintro e w1 ⟨rfl, hB1⟩
               by_cases hv : -9223372036854775808 ≤ Nm.val (Nm.run s.data.toList a) ∧ Nm.val (Nm.run s.data.toList a) ≤ 9223372036854775807
               · have e := hR.out
                 rw [if_neg hff, if_pos hv, HL.out] at e
                 have hw : m = Nm.val (Nm.run s.data.toList a) := HM2.out.trans (IntWalk.wrap64_in _ hv)
                 have hsame : (⟨(Lib.itoa m).toArray⟩ : ByteArray) = s.extract a k := by
                   rw [hw, Nm.itoa_val hf, ← HX.out]
                 rw [hsame]
                 have HE := Lib.hid e
                 have HW := Lib.hid hw
                 clear e hv hw hsame
                 go_wp2_with fail
                 go_ret3
                 have e := HE.out
                 simp only [Prod.mk.injEq] at e
                 obtain ⟨rfl, rfl, rfl⟩ := e
                 refine ⟨ret3 HW.out (by omega) rfl, hB1⟩
               · have e := hR.out
                 rw [if_neg hff, if_neg hv] at e
                 have hne : (Lib.itoa m == (s.extract a k).toList) = false := by
                   rw [toList_data, HX.out, beq_eq_false_iff_ne]
                   intro h
                   apply hv
                   apply wrap_out
                   rw [← HM2.out]
                   rw [← Nm.itoa_val hf] at h
                   exact Nm.itoa_inj h
                 have HE := Lib.hid e
                 clear e hv
                 go_wp2_with fail
                 go_ret3
                 have e := HE.out
                 simp only [Prod.mk.injEq] at e
                 obtain ⟨rfl, rfl, rfl⟩ := e
                 exact ⟨rfl, hB1⟩
         · have e := hR.out
           rw [if_neg hff, if_neg (val_long hf (by rw [HL.out]; omega))] at e
           have HE := Lib.hid e
           clear e
           go_wp2_with fail
           go_ret3
           have e := HE.out
           simp only [Prod.mk.injEq] at e
           obtain ⟨rfl, rfl, rfl⟩ := e
           exact ⟨rfl, Below.refl _ _⟩
       · have hff : Nm.form (Nm.run s.data.toList a) = false := by simpa using hf
         have e := hR.out
         rw [if_pos hff] at e
         have HE := Lib.hid e
         clear e
         go_wp2_with fail
         go_ret3
         have e := HE.out
         simp only [Prod.mk.injEq] at e
         obtain ⟨rfl, rfl, rfl⟩ := e
         exact ⟨rfl, Below.refl _ _⟩
   · have HS : Hid (Nm.run s.data.toList a = (s.data.toList.drop a).take (k - a)) := Nm.run_stop rfl hak HA.out (fun h => absurd h hlt)
     go_wp2_with fail
     refine (Form_any _ _ ?_).mono ?_
     · rw [ByteArray.size_extract]; unfold maxLen; omega
     rintro e w' ⟨rfl, rfl⟩
     have hx : (s.extract a k).data.toList = Nm.run s.data.toList a := by rw [Lib.extract_data, HS.out]
     have hxl : (Nm.run s.data.toList a).length = k - a := by rw [HS.out, List.length_take, List.length_drop, size_len]; omega
     rw [hx]
     have HX := Lib.hid hx
     have HL := Lib.hid hxl
     clear hx hxl
     have hl : a ≤ s.data.toList.length := by rw [size_len]; exact ha
     have hR := Lib.hid (hr.out.symm.trans (readP_in hl))
     clear hl hr HS HA
     by_cases hf : Nm.form (Nm.run s.data.toList a) = true
     · have hff : ¬ Nm.form (Nm.run s.data.toList a) = false := by simp [hf]
       by_cases h20 : k - a ≤ 20
       · have hpos : 0 < k - a := by
           rw [← HL.out]
           exact List.length_pos_iff.2 (by intro h; rw [h] at hf; exact absurd hf (by decide))
         have hts : (s.extract a k).size = k - a := by rw [ByteArray.size_extract]; omega
         have h0t : 0 < (s.extract a k).size := by omega
         have HT := Lib.hid hts
         clear hts
         obtain ⟨b, hb⟩ : ∃ b : Bool, (((s.extract a k)[0].toNat : Int) == 45) = b := ⟨_, rfl⟩
         have HB : Hid ((Nm.run s.data.toList a).head?.map (·.toNat) = some 45 ↔ b = true) := by
           show _ ↔ _
           rw [← hb, ← HX.out, head_at _ h0t]; simp; omega
         go_wp2_with fail
         go_loop [9, 10] (fun n i => ∃ (j : Nat) (m : Int), j ≤ k - a ∧ i = .int .i64 j ∧ n = .int .i64 m ∧ Hid (m = wrap64 (Nm.val ((Nm.run s.data.toList a).take j)))) (fun _ i => k - a - (intOf i).toNat)
         case atStart => exact ⟨0, 0, Nat.zero_le _, rfl, rfl, zero_wrap⟩
         case round =>
           obtain ⟨j, m, hj, rfl, rfl, HM⟩ := hrel
           by_cases hjl : j < k - a
           · have hjt : j < (s.extract a k).size := by rw [HT.out]; exact hjl
             obtain ⟨v1, v2⟩ := val_step hf (getElem_of _ HX.out j hjt)
             by_cases h45 : (s.extract a k)[j].toNat = 45
             · have hb45 : (((s.extract a k)[j].toNat : Int) == 45) = true := by rw [h45]; rfl
               have HV := Lib.hid (v1 h45)
               clear v1 v2 h45
               go_wp2_with fail
               refine ⟨⟨j + 1, m, by omega, by go_num, rfl, by rw [HV.out]; exact HM⟩, ?_⟩
               simp [intOf]; omega
             · have hb45 : (((s.extract a k)[j].toNat : Int) == 45) = false := beq_eq_false_iff_ne.2 (by omega)
               obtain ⟨d1, d2, hv⟩ := v2 h45
               have d1' : 48 ≤ ((s.extract a k)[j].toNat : Int) := by omega
               have d2' : ((s.extract a k)[j].toNat : Int) ≤ 57 := by omega
               have HV := Lib.hid hv
               clear v1 v2 h45 hv d1 d2
               cases b with
               | true =>
                 go_wp2_with fail
                 refine ⟨⟨j + 1, _, by omega, by go_num, rfl, ?_⟩, ?_⟩
                 · rw [HV.out, if_pos (HB.out.2 rfl)]; exact wrap_mul_sub _ _ _ HM.out
                 · simp [intOf]; omega
               | false =>
                 go_wp2_with fail
                 refine ⟨⟨j + 1, _, by omega, by go_num, rfl, ?_⟩, ?_⟩
                 · rw [HV.out, if_neg (by rw [HB.out]; decide)]; exact wrap_mul_add _ _ _ HM.out
                 · simp [intOf]; omega
           · have hjk : j = (Nm.run s.data.toList a).length := by rw [HL.out]; omega
             have hm : m = wrap64 (Nm.val (Nm.run s.data.toList a)) := by rw [HM.out, hjk, List.take_length]
             have HM2 := Lib.hid hm
             have HJ := Lib.hid hjk
             clear hm hjk HM
             have hb1 := wrap_bd (Nm.val (Nm.run s.data.toList a))
             rw [← HM2.out] at hb1
             obtain ⟨hb1, hb2⟩ := hb1
             go_wp2_with fail
             refine (refShow_any m hb1 hb2 _ _ rfl).mono ?_
             rintro e w1 ⟨rfl, hB1⟩
             by_cases hv : -9223372036854775808 ≤ Nm.val (Nm.run s.data.toList a) ∧ Nm.val (Nm.run s.data.toList a) ≤ 9223372036854775807
             · have e := hR.out
               rw [if_neg hff, if_pos hv, HL.out] at e
               have hw : m = Nm.val (Nm.run s.data.toList a) := HM2.out.trans (IntWalk.wrap64_in _ hv)
               have hsame : (⟨(Lib.itoa m).toArray⟩ : ByteArray) = s.extract a k := by
                 rw [hw, Nm.itoa_val hf, ← HX.out]
               rw [hsame]
               have HE := Lib.hid e
               have HW := Lib.hid hw
               clear e hv hw hsame
               go_wp2_with fail
               go_ret3
               have e := HE.out
               simp only [Prod.mk.injEq] at e
               obtain ⟨rfl, rfl, rfl⟩ := e
               refine ⟨ret3 HW.out (by omega) rfl, hB1⟩
             · have e := hR.out
               rw [if_neg hff, if_neg hv] at e
               have hne : (Lib.itoa m == (s.extract a k).toList) = false := by
                 rw [toList_data, HX.out, beq_eq_false_iff_ne]
                 intro h
                 apply hv
                 apply wrap_out
                 rw [← HM2.out]
                 rw [← Nm.itoa_val hf] at h
                 exact Nm.itoa_inj h
               have HE := Lib.hid e
               clear e hv
               go_wp2_with fail
               go_ret3
               have e := HE.out
               simp only [Prod.mk.injEq] at e
               obtain ⟨rfl, rfl, rfl⟩ := e
               exact ⟨rfl, hB1⟩
       · have e := hR.out
         rw [if_neg hff, if_neg (val_long hf (by rw [HL.out]; omega))] at e
         have HE := Lib.hid e
         clear e
         go_wp2_with fail
         go_ret3
         have e := HE.out
         simp only [Prod.mk.injEq] at e
         obtain ⟨rfl, rfl, rfl⟩ := e
         exact ⟨rfl, Below.refl _ _⟩
     · have hff : Nm.form (Nm.run s.data.toList a) = false := by simpa using hf
       have e := hR.out
       rw [if_pos hff] at e
       have HE := Lib.hid e
       clear e
       go_wp2_with fail
       go_ret3
       have e := HE.out
       simp only [Prod.mk.injEq] at e
       obtain ⟨rfl, rfl, rfl⟩ := e
       exact ⟨rfl, Below.refl _ _⟩
end

section
set_option maxRecDepth 100000
open Go.RowKit
set_option maxHeartbeats 2000000 in
theorem refWord_any (s : ByteArray) (a : Nat) (w : World) (hs : s.size ≤ 281474976710656) (ha : a ≤ s.size) (z : Nat) (hz : Hid (a + ((s.data.toList.drop a).takeWhile isLow).length = z)) :
   Calls Tryz.prog 95 #[.string s, .int .i64 a] w fun e w' => e = .returned (.int .i64 z) ∧ w = w' := by
 go_enter Tryz.func95, Tryz.ntmps95
 go_wp2_with fail
 go_loop [1] (fun p => ∃ q : Nat, a ≤ q ∧ q ≤ s.size ∧ p = .int .i64 q ∧ Hid ((s.data.toList.drop a).takeWhile isLow = (s.data.toList.drop a).take (q - a) ++ (s.data.toList.drop q).takeWhile isLow)) (fun p => s.size - (intOf p).toNat)
 case atStart => exact ⟨a, Nat.le_refl _, ha, rfl, by show _ = _; simp⟩
 case round =>
   obtain ⟨q, haq, hq, rfl, HQ⟩ := hrel
   by_cases hlt : q < s.size
   · by_cases hb : isLow s[q] = true
     · obtain ⟨b1, b2⟩ := low_yes hb
       have HST := Lib.hid (word_step haq hlt hb HQ.out)
       clear hb HQ
       go_wp2_with fail
       refine ⟨⟨q + 1, by omega, by omega, by go_num, HST⟩, by simp [intOf]; omega⟩
     · have hb' : isLow s[q] = false := by simpa using hb
       have hno := low_no hb'
       have hW := word_end haq hq (fun hh => hb') HQ.out
       have hqz : q = z := by rw [hW.2]; exact hz.out
       subst hqz
       clear hb hb' hW HQ hz
       rcases hno with h1 | ⟨h1, h2⟩
       all_goals
         go_wp2_with fail
         go_ret
         exact ⟨rfl, rfl⟩
   · have hW := word_end haq hq (fun hh => absurd hh hlt) HQ.out
     have hqz : q = z := by rw [hW.2]; exact hz.out
     subst hqz
     clear hW HQ hz
     go_wp2_with fail
     go_ret
     exact ⟨rfl, rfl⟩
def sgnL : List Nat := [123, 125, 91, 93, 44, 58]
def sgnFind : List Nat → Int → Nat → Int
 | [], _, _ => 0
 | a :: r, i, c => if c = a then i else sgnFind r (i + 1) c
def sgnF (k : Nat) (c : UInt8) : Int := sgnFind (sgnL.drop k) ((k : Int) + 1) c.toNat
theorem sgnF_0 (c : UInt8) : sgnF 0 c = signOf c := by
 unfold sgnF sgnL signOf
 simp only [List.drop_zero, sgnFind]
 rfl
def mark7 : Array Value := #[.int .u8 0, .int .i64 0, .int .i64 0, .int .i64 0, .string ⟨#[]⟩]
theorem numFirst_cases {c : UInt8} (h : numFirst c = true) : (48 ≤ c.toNat ∧ c.toNat ≤ 57) ∨ c.toNat = 45 ∨ c.toNat = 43 ∨ c.toNat = 46 := by
 simp [numFirst, Nm.dg] at h
 omega
theorem numFirst_no {c : UInt8} (h : numFirst c = false) : ¬ (48 ≤ c.toNat ∧ c.toNat ≤ 57) ∧ c.toNat ≠ 45 ∧ c.toNat ≠ 43 ∧ c.toNat ≠ 46 := by
 simp [numFirst, Nm.dg] at h
 omega
theorem tokP_at {s : ByteArray} {q : Nat} (h : q < s.size) : tokP (s.data.toList.drop q) = if signOf s[q] ≠ 0 then ⟨signOf s[q], 1, 0, [], 0⟩ else if s[q].toNat = 34 then textP (s.data.toList.drop (q + 1)) else if numFirst s[q] then numP (s.data.toList.drop q) else wordP (s.data.toList.drop q) := by
 rw [drop_at h, tokP]
set_option maxHeartbeats 8000000 in
theorem refNext7_in (s : ByteArray) (a : Nat) (w : World) (hs : s.size ≤ 281474976710656) (ha : a ≤ s.size) (k x z n : Int) (t : ByteArray) (er : Int) (hr : Hid (resV (nextM s.data.toList a) = (k, x, z, n, t, er))) :
   Calls Tryz.prog 68 #[.string s, .int .i64 a] w fun e w' => e = .returned (.tuple #[.agg #[.int .u8 k, .int .i64 x, .int .i64 z, .int .i64 n, .string t], .int .i64 er]) ∧ Below w.heap.size w w' := by
 obtain ⟨q, hq⟩ : ∃ q, a + blanks (s.data.toList.drop a) = q := ⟨_, rfl⟩
 have hqs : q ≤ s.size := by have := blanks_le (s.data.toList.drop a); rw [List.length_drop, size_len] at this; omega
 have h := hr.out
 rw [nextM_eq, hq] at h
 have HS := Lib.hid (fun W => behind_any s a W hs ha q hq)
 have hng : decide ((a : Int) < 0) = false := by simp
 have hlt : ¬ (s.size : Int) < (a : Int) := by omega
 clear hr hq
 by_cases hend : q = s.size
 · subst hend
   rw [drop_none (Nat.le_refl _)] at h
   obtain ⟨rfl, rfl, hz, rfl, rfl, rfl⟩ := resV_ok h
   have hz' : z = (s.size : Int) := by rw [hz]; simp
   subst hz'
   clear h hz
   go_enter Tryz.func68, Tryz.ntmps68
   go_wp2_with fail
   refine (HS.out _).mono ?_
   rintro e w2 ⟨rfl, rfl⟩
   go_wp2_with fail
   exact bodyPost_ret (v := .tuple #[.agg #[.int .u8 11, .int .i64 s.size, .int .i64 s.size, .int .i64 0, .string ⟨#[]⟩], .int .i64 0]) (by simp [results, Tryz.results68, go_sem]) rfl ⟨rfl, bel_alloc (Below.refl _ _) _⟩
 · have hq1 : q < s.size := by omega
   have hqe : ((q : Int) == (s.size : Int)) = false := beq_eq_false_iff_ne.2 (by omega)
   have q0 : (0 : Int) ≤ (q : Int) := by omega
   have q2 : (q : Int) < (s.size : Int) := by omega
   rw [tokP_at hq1] at h
   have hf0 := sgnF_0 s[q]
   obtain ⟨v, hv⟩ : ∃ v, signOf s[q] = v := ⟨_, rfl⟩
   rw [hv] at h hf0
   have HH := Lib.hid h
   have HF0 := Lib.hid hf0
   clear h hend hf0 hv
   go_enter Tryz.func68, Tryz.ntmps68
   go_wp2_with fail
   refine (HS.out _).mono ?_
   rintro e w2 ⟨rfl, rfl⟩
   go_wp2_with fail
   go_loopw [7] (fun i wr => ∃ j : Nat, j ≤ 6 ∧ i = .int .i64 j ∧ Hid (sgnF j s[q] = v) ∧ Below (w.alloc (.cells #[.int .u8 0, .int .i64 0, .int .i64 0, .int .i64 0, .string ⟨#[]⟩] 73)).heap.size (w.alloc (.cells #[.int .u8 0, .int .i64 0, .int .i64 0, .int .i64 0, .string ⟨#[]⟩] 73)) wr) (fun i _ => 6 - (intOf i).toNat)
   case atStart => exact ⟨0, by omega, rfl, HF0, Below.refl _ _⟩
   case round =>
     obtain ⟨j, hj, rfl, HQ, hBr⟩ := hrel
     clear HF0
     have hB0 : Below w.heap.size w wr := below_more (bel_alloc (Below.refl _ _) _) hBr
     have hj6 : j = 0 ∨ j = 1 ∨ j = 2 ∨ j = 3 ∨ j = 4 ∨ j = 5 ∨ j = 6 := by omega
     rcases hj6 with rfl | rfl | rfl | rfl | rfl | rfl | rfl
     · have hq : (if s[q].toNat = 123 then (1 : Int) else sgnF 1 s[q]) = v := HQ.out
       have hk : ((⟨#[123, 125, 91, 93, 44, 58]⟩ : ByteArray)[0]'(by decide)).toNat = 123 := rfl
       by_cases hc : s[q].toNat = 123
       · rw [if_pos hc] at hq
         subst hq
         have h := HH.out
         rw [if_pos (by decide)] at h
         obtain ⟨rfl, rfl, rfl, rfl, rfl, rfl⟩ := resV_ok h
         clear h HQ HH
         have hsz : w.heap.size < wr.heap.size := by have := hBr.size; simp at this; omega
         clear hB0 hsz
         go_wp2_with fail
         go_region
         have hBd := bel_drew hBr
         generalize wr.drew = wd at hBd ⊢
         clear hBr
         have hsz : w.heap.size < wd.heap.size := by have := hBd.size; simp at this; omega
         have hB0 : Below w.heap.size w wd := below_more (bel_alloc (Below.refl _ _) _) hBd
         obtain ⟨hcc, hff⟩ := bcell hBd
         go_wp2_with fail
         exact bodyPost_ret (v := .tuple #[.agg #[.int .u8 1, .int .i64 q, .int .i64 ((q : Int) + 1), .int .i64 0, .string ⟨#[]⟩], .int .i64 0]) (by simp [results, Tryz.results68, go_sem, hcc]) rfl ⟨rfl, bel_set5 hB0 (Nat.le_refl _) _ _ _ _ _⟩
       · rw [if_neg hc] at hq
         have HST := Lib.hid hq
         have hcb : ((s[q].toNat : Int) == 123) = false := beq_eq_false_iff_ne.2 (by omega)
         clear HQ hq hc hB0
         go_wp2_with fail
         go_region
         all_goals go_wp2_with fail
         all_goals exact ⟨⟨1, by omega, rfl, HST, bel_drew hBr⟩, by simp [intOf]⟩
     · have hq : (if s[q].toNat = 125 then (2 : Int) else sgnF 2 s[q]) = v := HQ.out
       have hk : ((⟨#[123, 125, 91, 93, 44, 58]⟩ : ByteArray)[1]'(by decide)).toNat = 125 := rfl
       by_cases hc : s[q].toNat = 125
       · rw [if_pos hc] at hq
         subst hq
         have h := HH.out
         rw [if_pos (by decide)] at h
         obtain ⟨rfl, rfl, rfl, rfl, rfl, rfl⟩ := resV_ok h
         clear h HQ HH
         have hsz : w.heap.size < wr.heap.size := by have := hBr.size; simp at this; omega
         clear hB0 hsz
         go_wp2_with fail
         go_region
         have hBd := bel_drew hBr
         generalize wr.drew = wd at hBd ⊢
         clear hBr
         have hsz : w.heap.size < wd.heap.size := by have := hBd.size; simp at this; omega
         have hB0 : Below w.heap.size w wd := below_more (bel_alloc (Below.refl _ _) _) hBd
         obtain ⟨hcc, hff⟩ := bcell hBd
         go_wp2_with fail
         exact bodyPost_ret (v := .tuple #[.agg #[.int .u8 2, .int .i64 q, .int .i64 ((q : Int) + 1), .int .i64 0, .string ⟨#[]⟩], .int .i64 0]) (by simp [results, Tryz.results68, go_sem, hcc]) rfl ⟨rfl, bel_set5 hB0 (Nat.le_refl _) _ _ _ _ _⟩
       · rw [if_neg hc] at hq
         have HST := Lib.hid hq
         have hcb : ((s[q].toNat : Int) == 125) = false := beq_eq_false_iff_ne.2 (by omega)
         clear HQ hq hc hB0
         go_wp2_with fail
         go_region
         all_goals go_wp2_with fail
         all_goals exact ⟨⟨2, by omega, rfl, HST, bel_drew hBr⟩, by simp [intOf]⟩
     · have hq : (if s[q].toNat = 91 then (3 : Int) else sgnF 3 s[q]) = v := HQ.out
       have hk : ((⟨#[123, 125, 91, 93, 44, 58]⟩ : ByteArray)[2]'(by decide)).toNat = 91 := rfl
       by_cases hc : s[q].toNat = 91
       · rw [if_pos hc] at hq
         subst hq
         have h := HH.out
         rw [if_pos (by decide)] at h
         obtain ⟨rfl, rfl, rfl, rfl, rfl, rfl⟩ := resV_ok h
         clear h HQ HH
         have hsz : w.heap.size < wr.heap.size := by have := hBr.size; simp at this; omega
         clear hB0 hsz
         go_wp2_with fail
         go_region
         have hBd := bel_drew hBr
         generalize wr.drew = wd at hBd ⊢
         clear hBr
         have hsz : w.heap.size < wd.heap.size := by have := hBd.size; simp at this; omega
         have hB0 : Below w.heap.size w wd := below_more (bel_alloc (Below.refl _ _) _) hBd
         obtain ⟨hcc, hff⟩ := bcell hBd
         go_wp2_with fail
         exact bodyPost_ret (v := .tuple #[.agg #[.int .u8 3, .int .i64 q, .int .i64 ((q : Int) + 1), .int .i64 0, .string ⟨#[]⟩], .int .i64 0]) (by simp [results, Tryz.results68, go_sem, hcc]) rfl ⟨rfl, bel_set5 hB0 (Nat.le_refl _) _ _ _ _ _⟩
       · rw [if_neg hc] at hq
         have HST := Lib.hid hq
         have hcb : ((s[q].toNat : Int) == 91) = false := beq_eq_false_iff_ne.2 (by omega)
         clear HQ hq hc hB0
         go_wp2_with fail
         go_region
         all_goals go_wp2_with fail
         all_goals exact ⟨⟨3, by omega, rfl, HST, bel_drew hBr⟩, by simp [intOf]⟩
     · have hq : (if s[q].toNat = 93 then (4 : Int) else sgnF 4 s[q]) = v := HQ.out
       have hk : ((⟨#[123, 125, 91, 93, 44, 58]⟩ : ByteArray)[3]'(by decide)).toNat = 93 := rfl
       by_cases hc : s[q].toNat = 93
       · rw [if_pos hc] at hq
         subst hq
         have h := HH.out
         rw [if_pos (by decide)] at h
         obtain ⟨rfl, rfl, rfl, rfl, rfl, rfl⟩ := resV_ok h
         clear h HQ HH
         have hsz : w.heap.size < wr.heap.size := by have := hBr.size; simp at this; omega
         clear hB0 hsz
         go_wp2_with fail
         go_region
         have hBd := bel_drew hBr
         generalize wr.drew = wd at hBd ⊢
         clear hBr
         have hsz : w.heap.size < wd.heap.size := by have := hBd.size; simp at this; omega
         have hB0 : Below w.heap.size w wd := below_more (bel_alloc (Below.refl _ _) _) hBd
         obtain ⟨hcc, hff⟩ := bcell hBd
         go_wp2_with fail
         exact bodyPost_ret (v := .tuple #[.agg #[.int .u8 4, .int .i64 q, .int .i64 ((q : Int) + 1), .int .i64 0, .string ⟨#[]⟩], .int .i64 0]) (by simp [results, Tryz.results68, go_sem, hcc]) rfl ⟨rfl, bel_set5 hB0 (Nat.le_refl _) _ _ _ _ _⟩
       · rw [if_neg hc] at hq
         have HST := Lib.hid hq
         have hcb : ((s[q].toNat : Int) == 93) = false := beq_eq_false_iff_ne.2 (by omega)
         clear HQ hq hc hB0
         go_wp2_with fail
         go_region
         all_goals go_wp2_with fail
         all_goals exact ⟨⟨4, by omega, rfl, HST, bel_drew hBr⟩, by simp [intOf]⟩
     · have hq : (if s[q].toNat = 44 then (5 : Int) else sgnF 5 s[q]) = v := HQ.out
       have hk : ((⟨#[123, 125, 91, 93, 44, 58]⟩ : ByteArray)[4]'(by decide)).toNat = 44 := rfl
       by_cases hc : s[q].toNat = 44
       · rw [if_pos hc] at hq
         subst hq
         have h := HH.out
         rw [if_pos (by decide)] at h
         obtain ⟨rfl, rfl, rfl, rfl, rfl, rfl⟩ := resV_ok h
         clear h HQ HH
         have hsz : w.heap.size < wr.heap.size := by have := hBr.size; simp at this; omega
         clear hB0 hsz
         go_wp2_with fail
         go_region
         have hBd := bel_drew hBr
         generalize wr.drew = wd at hBd ⊢
         clear hBr
         have hsz : w.heap.size < wd.heap.size := by have := hBd.size; simp at this; omega
         have hB0 : Below w.heap.size w wd := below_more (bel_alloc (Below.refl _ _) _) hBd
         obtain ⟨hcc, hff⟩ := bcell hBd
         go_wp2_with fail
         exact bodyPost_ret (v := .tuple #[.agg #[.int .u8 5, .int .i64 q, .int .i64 ((q : Int) + 1), .int .i64 0, .string ⟨#[]⟩], .int .i64 0]) (by simp [results, Tryz.results68, go_sem, hcc]) rfl ⟨rfl, bel_set5 hB0 (Nat.le_refl _) _ _ _ _ _⟩
       · rw [if_neg hc] at hq
         have HST := Lib.hid hq
         have hcb : ((s[q].toNat : Int) == 44) = false := beq_eq_false_iff_ne.2 (by omega)
         clear HQ hq hc hB0
         go_wp2_with fail
         go_region
         all_goals go_wp2_with fail
         all_goals exact ⟨⟨5, by omega, rfl, HST, bel_drew hBr⟩, by simp [intOf]⟩
     · have hq : (if s[q].toNat = 58 then (6 : Int) else sgnF 6 s[q]) = v := HQ.out
       have hk : ((⟨#[123, 125, 91, 93, 44, 58]⟩ : ByteArray)[5]'(by decide)).toNat = 58 := rfl
       by_cases hc : s[q].toNat = 58
       · rw [if_pos hc] at hq
         subst hq
         have h := HH.out
         rw [if_pos (by decide)] at h
         obtain ⟨rfl, rfl, rfl, rfl, rfl, rfl⟩ := resV_ok h
         clear h HQ HH
         have hsz : w.heap.size < wr.heap.size := by have := hBr.size; simp at this; omega
         clear hB0 hsz
         go_wp2_with fail
         go_region
         have hBd := bel_drew hBr
         generalize wr.drew = wd at hBd ⊢
         clear hBr
         have hsz : w.heap.size < wd.heap.size := by have := hBd.size; simp at this; omega
         have hB0 : Below w.heap.size w wd := below_more (bel_alloc (Below.refl _ _) _) hBd
         obtain ⟨hcc, hff⟩ := bcell hBd
         go_wp2_with fail
         exact bodyPost_ret (v := .tuple #[.agg #[.int .u8 6, .int .i64 q, .int .i64 ((q : Int) + 1), .int .i64 0, .string ⟨#[]⟩], .int .i64 0]) (by simp [results, Tryz.results68, go_sem, hcc]) rfl ⟨rfl, bel_set5 hB0 (Nat.le_refl _) _ _ _ _ _⟩
       · rw [if_neg hc] at hq
         have HST := Lib.hid hq
         have hcb : ((s[q].toNat : Int) == 58) = false := beq_eq_false_iff_ne.2 (by omega)
         clear HQ hq hc hB0
         go_wp2_with fail
         go_region
         all_goals go_wp2_with fail
         all_goals exact ⟨⟨6, by omega, rfl, HST, bel_drew hBr⟩, by simp [intOf]⟩
     · have hq : (0 : Int) = v := HQ.out
       subst hq
       have h := HH.out
       rw [if_neg (by decide)] at h
       have hsz : w.heap.size < wr.heap.size := by have := hBr.size; simp at this; omega
       clear HQ HH
       by_cases h34 : s[q].toNat = 34
       · have hcb : ((s[q].toNat : Int) == 34) = true := by rw [h34]; rfl
         rw [if_pos h34] at h
         obtain ⟨l, c, e, hR⟩ : ∃ l c e, strQ (s.data.toList.drop (q + 1)) [] = (l, c, e) := ⟨_, _, _, rfl⟩
         rw [textP_eq, hR] at h
         simp only [] at h
         by_cases h1 : e ≠ 0
         · rw [if_pos h1] at h
           obtain ⟨rfl, rfl, rfl, rfl, rfl, rfl⟩ := resV_bad h1 h
           have HC := Lib.hid (fun W => refText_any s q W hs hq1 h34 [] 0 er (show strR (q + 1) (strQ (s.data.toList.drop (q + 1)) []) = _ by rw [hR, strR, if_pos h1]))
           have heb : (er != 0) = true := by rw [bne_iff_ne]; exact h1
           clear h h1 hR h34
           go_wp2_with fail
           refine (HC.out _).mono ?_
           rintro e w3 ⟨rfl, hb3⟩
           have hb4 := below_more hBr hb3
           have hsz3 : w.heap.size < w3.heap.size := by have := hb3.size; omega
           obtain ⟨hcc, hff⟩ := bcell hb4
           go_wp2_with fail
           exact bodyPost_ret (v := .tuple #[.agg #[.int .u8 0, .int .i64 0, .int .i64 0, .int .i64 0, .string ⟨#[]⟩], .int .i64 er]) (by simp [results, Tryz.results68, go_sem, hcc]) rfl ⟨rfl, bel_set5 (below_more hB0 hb3) (Nat.le_refl _) _ _ _ _ _⟩
         · rw [if_neg h1] at h
           have h0 : e = 0 := by simpa using h1
           subst h0
           obtain ⟨rfl, rfl, hz, rfl, ht, rfl⟩ := resV_ok h
           have HC := Lib.hid (fun W => refText_any s q W hs hq1 h34 l z 0 (show strR (q + 1) (strQ (s.data.toList.drop (q + 1)) []) = _ by rw [hR, strR, if_neg h1, hz]; simp only [Prod.mk.injEq, true_and, and_true]; omega))
           rw [← ht] at HC
           clear h h1 hz hR h34 ht
           go_wp2_with fail
           refine (HC.out _).mono ?_
           rintro e w3 ⟨rfl, hb3⟩
           have hb4 := below_more hBr hb3
           have hsz3 : w.heap.size < w3.heap.size := by have := hb3.size; omega
           obtain ⟨hcc, hff⟩ := bcell hb4
           go_wp2_with fail
           exact bodyPost_ret (v := .tuple #[.agg #[.int .u8 10, .int .i64 q, .int .i64 z, .int .i64 0, .string t], .int .i64 0]) (by simp [results, Tryz.results68, go_sem, hcc]) rfl ⟨rfl, bel_set5 (below_more hB0 hb3) (Nat.le_refl _) _ _ _ _ _⟩
       · have hcb : ((s[q].toNat : Int) == 34) = false := beq_eq_false_iff_ne.2 (by omega)
         rw [if_neg h34] at h
         by_cases hnum : numFirst s[q] = true
         · rw [if_pos hnum] at h
           have hcs : (∃ d1 : decide ((48 : Int) ≤ (s[q].toNat : Int)) = true, decide ((s[q].toNat : Int) ≤ 57) = true) ∨ s[q].toNat = 45 ∨ s[q].toNat = 43 ∨ s[q].toNat = 46 := by
             rcases numFirst_cases hnum with h9 | h9
             · exact Or.inl ⟨by simp; omega, by simp; omega⟩
             · exact Or.inr h9
           obtain ⟨r1, r2, r3, hR⟩ : ∃ r1 r2 r3, readP s.data.toList q = (r1, r2, r3) := ⟨_, _, _, rfl⟩
           have HC := Lib.hid (fun W => refRead_in s q W hs hqs r1 r2 r3 hR)
           rw [readP_in (by rw [size_len]; exact hqs)] at hR
           have hrun : Nm.run s.data.toList q = (s.data.toList.drop q).takeWhile Nm.isN := rfl
           rw [hrun] at hR
           unfold numP at h
           have hfin : (r3 ≠ 0 ∧ k = 0 ∧ x = 0 ∧ z = 0 ∧ n = 0 ∧ t = ⟨#[]⟩ ∧ er = r3) ∨ (r3 = 0 ∧ k = 9 ∧ x = (q : Int) ∧ z = r2 ∧ n = r1 ∧ t = ⟨#[]⟩ ∧ er = 0) := by
             by_cases h1 : Nm.form ((s.data.toList.drop q).takeWhile Nm.isN) = false
             · rw [if_pos h1] at h hR
               simp only [Prod.mk.injEq] at hR
               obtain ⟨-, -, rfl⟩ := hR
               exact Or.inl ⟨by decide, resV_bad (by decide) h⟩
             · rw [if_neg h1] at h hR
               by_cases h2 : -9223372036854775808 ≤ Nm.val ((s.data.toList.drop q).takeWhile Nm.isN) ∧ Nm.val ((s.data.toList.drop q).takeWhile Nm.isN) ≤ 9223372036854775807
               · rw [if_pos h2] at h hR
                 simp only [Prod.mk.injEq] at hR
                 obtain ⟨a1, a2, a3, a4, a5, a6⟩ := resV_ok h
                 obtain ⟨b1, b2, b3⟩ := hR
                 exact Or.inr ⟨b3.symm, a1, a2, by rw [a3, ← b2], by rw [a4, ← b1], a5, a6⟩
               · rw [if_neg h2] at h hR
                 simp only [Prod.mk.injEq] at hR
                 obtain ⟨-, -, rfl⟩ := hR
                 exact Or.inl ⟨by decide, resV_bad (by decide) h⟩
           clear h hR hrun hnum h34
           rcases hfin with ⟨h3, rfl, rfl, rfl, rfl, rfl, rfl⟩ | ⟨rfl, rfl, rfl, rfl, rfl, rfl, rfl⟩
           · have heb : (er != 0) = true := by rw [bne_iff_ne]; exact h3
             clear h3
             rcases hcs with ⟨d1, d2⟩ | h9 | h9 | h9
             all_goals
               go_wp2_with fail
               refine (HC.out _).mono ?_
               rintro e w3 ⟨rfl, hb3⟩
               have hb4 := below_more hBr hb3
               have hsz3 : w.heap.size < w3.heap.size := by have := hb3.size; omega
               obtain ⟨hcc, hff⟩ := bcell hb4
               go_wp2_with fail
               exact bodyPost_ret (v := .tuple #[.agg #[.int .u8 0, .int .i64 0, .int .i64 0, .int .i64 0, .string ⟨#[]⟩], .int .i64 er]) (by simp [results, Tryz.results68, go_sem, hcc]) rfl ⟨rfl, bel_set5 (below_more hB0 hb3) (Nat.le_refl _) _ _ _ _ _⟩
           · rcases hcs with ⟨d1, d2⟩ | h9 | h9 | h9
             all_goals
               go_wp2_with fail
               refine (HC.out _).mono ?_
               rintro e w3 ⟨rfl, hb3⟩
               have hb4 := below_more hBr hb3
               have hsz3 : w.heap.size < w3.heap.size := by have := hb3.size; omega
               obtain ⟨hcc, hff⟩ := bcell hb4
               go_wp2_with fail
               exact bodyPost_ret (v := .tuple #[.agg #[.int .u8 9, .int .i64 q, .int .i64 z, .int .i64 n, .string ⟨#[]⟩], .int .i64 0]) (by simp [results, Tryz.results68, go_sem, hcc]) rfl ⟨rfl, bel_set5 (below_more hB0 hb3) (Nat.le_refl _) _ _ _ _ _⟩
         · have hnum' : numFirst s[q] = false := by simpa using hnum
           rw [if_neg hnum] at h
           obtain ⟨n1, n2, n3, n4⟩ := numFirst_no hnum'
           have e2 : ((s[q].toNat : Int) == 45) = false := beq_eq_false_iff_ne.2 (by omega)
           have e3 : ((s[q].toNat : Int) == 43) = false := beq_eq_false_iff_ne.2 (by omega)
           have e4 : ((s[q].toNat : Int) == 46) = false := beq_eq_false_iff_ne.2 (by omega)
           have hds : decide ((48 : Int) ≤ (s[q].toNat : Int)) = false ∨ (∃ d1 : decide ((48 : Int) ≤ (s[q].toNat : Int)) = true, decide ((s[q].toNat : Int) ≤ 57) = false) := by
             by_cases h9 : 48 ≤ s[q].toNat
             · exact Or.inr ⟨by simp; omega, by simp; omega⟩
             · exact Or.inl (by simp; omega)
           obtain ⟨z0, hz0⟩ : ∃ z0, q + ((s.data.toList.drop q).takeWhile isLow).length = z0 := ⟨_, rfl⟩
           have hz1 : z0 ≤ s.size := by have := tw_len (p := isLow) (s.data.toList.drop q); rw [List.length_drop, size_len] at this; omega
           have hz2 : q ≤ z0 := by omega
           have HC := Lib.hid (fun W => refWord_any s q W hs hqs z0 hz0)
           have hex : (s.extract q z0).toList = (s.data.toList.drop q).takeWhile isLow := by
             rw [ext_list, ← hz0, show q + ((s.data.toList.drop q).takeWhile isLow).length - q = ((s.data.toList.drop q).takeWhile isLow).length by omega, tw_take]
           unfold wordP at h
           have z3 : (q : Int) ≤ (z0 : Int) := by omega
           have z4 : (z0 : Int) ≤ (s.size : Int) := by omega
           clear hnum hnum' n1 n2 n3 n4 h34
           by_cases w1 : (s.data.toList.drop q).takeWhile isLow = [116, 114, 117, 101]
           · rw [if_pos w1] at h
             obtain ⟨rfl, rfl, hz, rfl, rfl, rfl⟩ := resV_ok h
             have hz' : z = (z0 : Int) := by rw [hz, ← hz0, w1]; simp
             subst hz'
             have e5 : ((s.extract q z0).toList == [116, 114, 117, 101]) = true := by rw [hex, w1]; rfl
             clear h hz hz0 hex w1
             rcases hds with d1 | ⟨d1, d2⟩
             all_goals
               go_wp2_with fail
               refine (HC.out _).mono ?_
               rintro e w3 ⟨rfl, rfl⟩
               obtain ⟨hcc, hff⟩ := bcell hBr
               go_wp2_with fail
               exact bodyPost_ret (v := .tuple #[.agg #[.int .u8 7, .int .i64 q, .int .i64 z0, .int .i64 0, .string ⟨#[]⟩], .int .i64 0]) (by simp [results, Tryz.results68, go_sem, hcc]) rfl ⟨rfl, bel_set5 hB0 (Nat.le_refl _) _ _ _ _ _⟩
           · rw [if_neg w1] at h
             have e5 : ((s.extract q z0).toList == [116, 114, 117, 101]) = false := by rw [hex]; exact beq_eq_false_iff_ne.2 w1
             by_cases w2 : (s.data.toList.drop q).takeWhile isLow = [102, 97, 108, 115, 101]
             · rw [if_pos w2] at h
               obtain ⟨rfl, rfl, hz, rfl, rfl, rfl⟩ := resV_ok h
               have hz' : z = (z0 : Int) := by rw [hz, ← hz0, w2]; simp
               subst hz'
               have e6 : ((s.extract q z0).toList == [102, 97, 108, 115, 101]) = true := by rw [hex, w2]; rfl
               clear h hz hz0 hex w1 w2
               rcases hds with d1 | ⟨d1, d2⟩
               all_goals
                 go_wp2_with fail
                 refine (HC.out _).mono ?_
                 rintro e w3 ⟨rfl, rfl⟩
                 obtain ⟨hcc, hff⟩ := bcell hBr
                 go_wp2_with fail
                 exact bodyPost_ret (v := .tuple #[.agg #[.int .u8 8, .int .i64 q, .int .i64 z0, .int .i64 0, .string ⟨#[]⟩], .int .i64 0]) (by simp [results, Tryz.results68, go_sem, hcc]) rfl ⟨rfl, bel_set5 hB0 (Nat.le_refl _) _ _ _ _ _⟩
             · rw [if_neg w2] at h
               obtain ⟨rfl, rfl, rfl, rfl, rfl, rfl⟩ := resV_bad (by decide) h
               have e6 : ((s.extract q z0).toList == [102, 97, 108, 115, 101]) = false := by rw [hex]; exact beq_eq_false_iff_ne.2 w2
               clear h hz0 hex w1 w2
               rcases hds with d1 | ⟨d1, d2⟩
               all_goals
                 go_wp2_with fail
                 refine (HC.out _).mono ?_
                 rintro e w3 ⟨rfl, rfl⟩
                 obtain ⟨hcc, hff⟩ := bcell hBr
                 go_wp2_with fail
                 exact bodyPost_ret (v := .tuple #[.agg #[.int .u8 0, .int .i64 0, .int .i64 0, .int .i64 0, .string ⟨#[]⟩], .int .i64 3]) (by simp [results, Tryz.results68, go_sem, hcc]) rfl ⟨rfl, bel_set5 hB0 (Nat.le_refl _) _ _ _ _ _⟩
end
end Go.Proofs.YtmggmpigpiaagaaGreatDoor
