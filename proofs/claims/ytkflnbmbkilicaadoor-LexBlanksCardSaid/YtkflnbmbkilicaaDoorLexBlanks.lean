/-
  The walk of the law LexBlanks.
-/
import Derived.Test.YtkflnbmbkilicaaDoorLexParts
import Derived.IntWalk
import Derived.BigQuiet
import Derived.Laws.StructEq
namespace Go.Proofs.YtkflnbmbkilicaaDoor
open Go.RowKit

theorem RowP.count {s : List UInt8} : ∀ {ms : List Mk} {p : Nat}, RowP s p ms → ms.length ≤ s.length - p + 1
  | [], _, _ => by simp
  | m :: r, p, h => by
    obtain ⟨r1, r2, r3, r4, r5, r6, r7, r8, r9, r10, r11, r12⟩ := h
    by_cases hk : m.k = 11
    · obtain rfl := r5.1 hk
      simp
    · have h8 := r8 hk
      have := RowP.count r12
      rw [List.length_cons]
      omega
theorem RowP.blk_len {s : List UInt8} (b : List UInt8) : ∀ {ms : List Mk} {p : Nat}, RowP s p ms → (blkT s b ms).length ≤ ms.length * b.length + (s.length - p)
  | [], _, _ => by simp [blkT]
  | m :: r, p, h => by
    obtain ⟨r1, r2, r3, r4, r5, r6, r7, r8, r9, r10, r11, r12⟩ := h
    have := RowP.blk_len b r12
    unfold blkT
    rw [List.length_append, List.length_append, List.length_take, List.length_drop, List.length_cons, Nat.succ_mul]
    omega
theorem blkT_snoc (s b : List UInt8) (m : Mk) : ∀ (l : List Mk), blkT s b (l ++ [m]) = blkT s b l ++ (b ++ (s.drop m.a).take (m.z - m.a))
  | [] => by simp [blkT]
  | x :: r => by rw [List.cons_append]; unfold blkT; rw [blkT_snoc s b m r]; simp
theorem blkT_cat (s b : List UInt8) : ∀ (l r : List Mk), blkT s b (l ++ r) = blkT s b l ++ blkT s b r
  | [], r => by simp [blkT]
  | x :: l, r => by rw [List.cons_append]; simp only [blkT]; rw [blkT_cat s b l r]; simp
theorem blkM_snoc (s b : List UInt8) (m : Mk) (hm : m.z ≤ s.length) : ∀ (l : List Mk) (q : Nat), (∀ x ∈ l, x.z ≤ s.length) → blkM b.length q (l ++ [m]) = blkM b.length q l ++ [⟨m.k, q + (blkT s b l).length + b.length, q + (blkT s b l).length + b.length + (m.z - m.a), m.n, m.t⟩]
  | [], q, _ => by simp [blkT, blkM]
  | x :: r, q, h => by
    have hx := h x (by simp)
    rw [List.cons_append]
    simp only [blkT, blkM, List.cons_append]
    rw [blkM_snoc s b m hm r _ (fun y hy => h y (by simp [hy]))]
    have hlen : (b ++ ((s.drop x.a).take (x.z - x.a) ++ blkT s b r)).length = b.length + (x.z - x.a) + (blkT s b r).length := by
      rw [List.length_append, List.length_append, List.length_take, List.length_drop]; omega
    rw [hlen]
    congr 3
    · congr 1 <;> omega
theorem blkM_len (n : Nat) : ∀ (l : List Mk) (q : Nat), (blkM n q l).length = l.length
  | [], _ => rfl
  | x :: r, q => by simp [blkM, blkM_len n r]
theorem take_one {α : Type} {l : List α} {k : Nat} {x : α} (h : l[k]? = some x) : l.take (k + 1) = l.take k ++ [x] := by
  rw [List.take_add_one, h]; rfl
def BlkPost (s b : List UInt8) (ms : List Mk) (w : World) (e : Ending) (w' : World) : Prop := ∃ (o : ByteArray) (v : Value), e = .returned (.tuple #[.string o, v]) ∧ o.data.toList = blkT s b ms ∧ MarksOwn w' w.heap.size v (blkM b.length 0 ms) ∧ Below w.heap.size w w'
set_option maxRecDepth 100000 in
set_option maxHeartbeats 4000000 in
theorem blanked_any (s bs : ByteArray) (ms : List Mk) (g cap : Nat) (w : World) (hs : s.size ≤ 1500) (hbs : bs.size ≤ 3) (hlen : ms.length ≤ 1501) (hrow : Hid (MkRow w g ms)) (hfit : Hid (∀ m ∈ ms, m.a ≤ m.z ∧ m.z ≤ s.size)) (hT : Hid ((blkT s.data.toList bs.data.toList ms).length ≤ 6100)) :
    Calls Tryd.prog 18 #[.string s, .slice (some ⟨g, 0, none⟩) ms.length cap, .string bs] w (BlkPost s.data.toList bs.data.toList ms w) := by
  obtain ⟨i0, hi, hz0, hz1, hz2⟩ := info_parts infoMark
  have HI := Lib.hid hi
  have HZ0 := Lib.hid hz0
  have HZ1 := Lib.hid hz1
  have HZ2 := Lib.hid hz2
  clear hi hz0 hz1 hz2
  go_enter Tryd.func18, Tryd.ntmps18
  go_wp2_with fail
  go_loopw [8, 9, 10] (fun ot sl i wr => ∃ (k : Nat) (o : ByteArray) (v : Value), k ≤ ms.length ∧ ot = .string o ∧ v = sl ∧ i = .int .i64 k ∧ o.size ≤ 6100 ∧ Hid (o.data.toList = blkT s.data.toList bs.data.toList (ms.take k)) ∧ MarksOwn wr w.heap.size v (blkM bs.data.toList.length 0 (ms.take k)) ∧ Below w.heap.size w wr) (fun _ _ i _ => ms.length - (intOf i).toNat)
  case atStart => exact ⟨0, ⟨#[]⟩, _, Nat.zero_le _, rfl, rfl, rfl, by decide, rfl, World.ownsRow_nil _ _ _ _, Below.refl _ _⟩
  case round =>
    obtain ⟨k, o, v, hk, rfl, rfl, rfl, hosz, HO, hown, hBr⟩ := hrel
    by_cases hlt : k < ms.length
    · obtain ⟨m, hm⟩ : ∃ m, ms[k]? = some m := ⟨_, List.getElem?_eq_getElem hlt⟩
      have hrw := hrow.out.keep hBr
      have hgl := hrw.lt (fun h => by rw [h] at hlt; simp at hlt)
      obtain ⟨c0, c1, c2, c3, c4⟩ := hrw k m hm
      obtain ⟨q1, hq1⟩ : ∃ q1, (o ++ bs).size = q1 := ⟨_, rfl⟩
      have hx := hrw.al (.cells #[.int .u8 m.k, .int .i64 (q1 : Int), .int .i64 m.z, .int .i64 m.n, .string ⟨m.t.toArray⟩] 28)
      obtain ⟨d0, d1, d2, d3, d4⟩ := hx k m hm
      obtain ⟨f1, f2⟩ := hfit.out m (List.mem_of_getElem? hm)
      obtain ⟨mk, ma, mz, mn, mt⟩ := m
      simp only [] at c0 c1 c2 c3 c4 d0 d1 d2 d3 d4 f1 f2
      obtain ⟨q2, hq2⟩ : ∃ q2, (o ++ bs ++ s.extract ma mz).size = q2 := ⟨_, rfl⟩
      have hext : (s.extract ma mz).size ≤ 1500 := by rw [show (s.extract ma mz).size = min mz s.size - ma from ByteArray.size_extract]; omega
      have hq1b : q1 ≤ 6103 := by rw [← hq1, ByteArray.size_append]; omega
      have HM := Lib.hid hm
      have HX := Lib.hid hx
      have HOWN := Lib.hid hown
      clear hm hx hown hrw
      go_wp2_with fail
      go_quiet (fail)
      have hbelW : Below wr.heap.size wr ((((wr.alloc (.cells #[.int .u8 mk, .int .i64 (q1 : Int), .int .i64 (mz : Int), .int .i64 mn, .string ⟨mt.toArray⟩] 28)).drewN nq).setCell ⟨wr.heap.size, 2, none⟩ (.int .i64 (q2 : Int))).alloc (.cells #[.int .u8 mk, .int .i64 (q1 : Int), .int .i64 (q2 : Int), .int .i64 mn, .string ⟨mt.toArray⟩] 28)) := bel_alloc (bel_set (bel_drewN (bel_alloc (Below.refl _ _) _) _) (p := ⟨wr.heap.size, 2, none⟩) (Nat.le_refl _) _) _
      have hownW := HOWN.out.keep hbelW
      have HBW := Lib.hid hbelW
      have HML : Hid ((blkM bs.data.toList.length 0 (ms.take k)).length = k) := by show _ = _; rw [blkM_len, List.length_take]; omega
      have HLW := Lib.hid (below_more hBr hbelW)
      clear hbelW
      have hsW : ((((wr.alloc (.cells #[.int .u8 mk, .int .i64 (q1 : Int), .int .i64 (mz : Int), .int .i64 mn, .string ⟨mt.toArray⟩] 28)).drewN nq).setCell ⟨wr.heap.size, 2, none⟩ (.int .i64 (q2 : Int))).heap.size) = wr.heap.size + 1 := by rw [size_set, size_drN, size_al]
      have HSW := Lib.hid hsW
      have HOW := Lib.hid hownW
      clear hsW hownW
      go_wp2_with (at_builtin; refine wpList_append_own _ rfl _ _ 23 rfl w.heap.size 28 i0 (.agg #[.int .u8 0, .int .i64 0, .int .i64 0, .int .i64 0, .string ⟨#[]⟩]) 5 48 Tryd.underlying23 HI.out HZ0.out HZ1.out HZ2.out rfl (by decide) _ _ _ rfl HOW.out ⟨wr.heap.size + 1, 0, none⟩ 1 1 [.int .u8 mk, .int .i64 (q1 : Int), .int .i64 (q2 : Int), .int .i64 mn, .string ⟨mt.toArray⟩] ?cx rfl ?c1 ?c2 ?c3 ?c4 ?c5 ?_)
      case cx => first | rfl | (rw [← HSW.out]; rfl)
      case c1 =>
        intro j u hj
        have hadd : (⟨wr.heap.size + 1, 0, none⟩ : Addr).add j = ⟨wr.heap.size + 1, j, none⟩ := by unfold Addr.add; split <;> simp_all
        rw [hadd, cell_al_eq _ _ _ _ _ HSW.out.symm]
        simpa using hj
      case c2 =>
        intro u hu
        simp only [List.mem_cons, List.not_mem_nil, or_false] at hu
        rcases hu with rfl | rfl | rfl | rfl | rfl <;> rfl
      case c3 => rw [HML.out]; unfold maxLen; omega
      case c4 => rw [HML.out]; omega
      case c5 => exact HLW.out.size
      intro v' w4 hown4 hgrow _
      have hB4 : Below w.heap.size w w4 := HLW.out.grown hgrow HLW.out.size (fun g hg => (World.ownsRow.lt HOW.out g hg).1)
      have htk := take_one HM.out
      have hoL : o.size = (blkT s.data.toList bs.data.toList (ms.take k)).length := by rw [← HO.out, size_len]
      have hext2 : (s.extract ma mz).size = mz - ma := by rw [show (s.extract ma mz).size = min mz s.size - ma from ByteArray.size_extract]; omega
      have hq1' : q1 = (blkT s.data.toList bs.data.toList (ms.take k)).length + bs.data.toList.length := by rw [← hq1, ByteArray.size_append, hoL, size_len]
      have hq2' : q2 = q1 + (mz - ma) := by rw [← hq2, ByteArray.size_append, hq1, hext2]
      have hM4 : MarksOwn w4 w.heap.size v' (blkM bs.data.toList.length 0 (ms.take (k + 1))) := by
        unfold MarksOwn
        rw [htk, blkM_snoc s.data.toList bs.data.toList _ (by rw [size_len]; exact f2) _ _ (fun x hx => by rw [size_len]; exact (hfit.out x (List.mem_of_mem_take hx)).2), mksCells_snoc, List.length_append]
        simp only [Nat.zero_add, ← hq1', ← hq2']
        exact hown4
      have hO4 : (o ++ bs ++ s.extract ma mz).data.toList = blkT s.data.toList bs.data.toList (ms.take (k + 1)) := by
        rw [htk, blkT_snoc, ← HO.out, ← Lib.extract_data]
        simp
      have hsz4 : (o ++ bs ++ s.extract ma mz).size ≤ 6100 := by
        have h1 := hT.out
        rw [← List.take_append_drop (k + 1) ms, blkT_cat, List.length_append, ← hO4, size_len] at h1
        omega
      clear hgrow hown4
      go_wp2_with fail
      refine ⟨⟨k + 1, o ++ bs ++ s.extract ma mz, v', by omega, rfl, rfl, by go_num, hsz4, hO4, hM4, hB4⟩, by simp [intOf]; omega⟩
    · have hke : k = ms.length := by omega
      subst hke
      have HOWN := Lib.hid hown
      clear hown
      go_wp2_with fail
      go_ret2
      have h1 := HO.out
      have h2 := HOWN.out
      rw [List.take_length] at h1 h2
      exact ⟨o, v, rfl, h1, h2, hBr⟩
theorem bounds_u8' {n : Int} (h : (Lit.int .u8 n).wf = true) : 0 ≤ n ∧ n ≤ 255 := by
  first
    | (have h1 : (decide ((0 : Int) ≤ n) && decide (n ≤ 255)) = true := h
       simpa using h1)
    | (simp [Lit.wf] at h
       have e1 : IntKind.u8.signed = false := rfl
       have e2 : IntKind.u8.bits = 8 := rfl
       simp [e1, e2] at h
       omega)
    | (simp [Lit.wf, IntKind.signed, IntKind.bits] at h
       omega)
theorem four_idx (which : Int) (h0 : 0 ≤ which) : ∃ i : Nat, i < 4 ∧ which.tmod 4 = (i : Int) := by
  refine ⟨(which.tmod 4).toNat, ?_, ?_⟩
  · have := Int.tmod_lt_of_pos which (show (0 : Int) < 4 by decide)
    omega
  · have := Int.tmod_nonneg 4 h0
    omega
theorem four_by (i : Nat) (h : i < 4) : ∃ bs : ByteArray, (#[Value.string ⟨#[32]⟩, .string ⟨#[9]⟩, .string ⟨#[10, 13]⟩, .string ⟨#[32, 32, 9]⟩] : Array Value)[i]? = some (.string bs) ∧ bs.size ≤ 3 ∧ (∀ c ∈ bs.data.toList, isBlank c = true) ∧ bs.data.toList ≠ [] := by
  match i, h with
  | 0, _ => exact ⟨_, rfl, by decide, by decide, by decide⟩
  | 1, _ => exact ⟨_, rfl, by decide, by decide, by decide⟩
  | 2, _ => exact ⟨_, rfl, by decide, by decide, by decide⟩
  | 3, _ => exact ⟨_, rfl, by decide, by decide, by decide⟩
set_option maxRecDepth 100000 in
set_option maxHeartbeats 4000000 in
theorem lexBlanks_walk (s : ByteArray) (which : Int) (w : World) (w0 : s.size ≤ maxLen) (wh : (Lit.int .u8 which).wf = true) (henv : NumEnv w) :
    Calls Tryd.prog 7 #[.string s, .int .u8 which] w fun e w' => e = .returned (.bool true) ∧ Below w.heap.size w w' := by
  unfold maxLen at w0
  have hwh := bounds_u8' wh
  clear wh
  by_cases hl : 1500 < s.size
  · have hd : decide (1500 < (s.size : Int)) = true := by simp; omega
    go_enter Tryd.func7, Tryd.ntmps7
    go_wp2_with fail
    refine (awake7_any _ henv).mono ?_
    rintro e w3 ⟨rfl, hb3⟩
    go_wp2_with fail
    go_ret
    exact ⟨rfl, hb3⟩
  have hd : decide (1500 < (s.size : Int)) = false := by simp; omega
  obtain ⟨ms, pl, er, hR⟩ : ∃ ms pl er, allR s = (ms, pl, er) := ⟨_, _, _, rfl⟩
  have hall : allP s.data.toList 0 = (ms, pl, er) := by rw [← allR_in' (by omega)]; exact hR
  have HR := Lib.hid (fun W hE => lexAll_any s W (by omega) hE _ hR)
  clear hR
  by_cases he : er ≠ 0
  · have heb : (er != 0) = true := by rw [bne_iff_ne]; exact he
    clear he hall
    go_enter Tryd.func7, Tryd.ntmps7
    go_wp2_with fail
    refine (awake7_any _ henv).mono ?_
    rintro e w3 ⟨rfl, hb3⟩
    go_wp2_with fail
    refine (HR.out _ (henv.below hb3)).mono ?_
    rintro e w4 ⟨v, rfl, hm4, hb4⟩
    obtain ⟨a4, c4, rfl⟩ := hm4.slice
    clear hm4
    go_wp2_with fail
    go_ret
    exact ⟨rfl, below_more hb3 hb4⟩
  have he0 : er = 0 := by simpa using he
  subst he0
  have hrow0 := all_row s.data.toList _ s.data.toList 0 (Nat.le_refl _) (Nat.zero_le _) rfl (by rw [hall])
  have hne := (all_ne _ s.data.toList 0 (Nat.le_refl _) (by rw [hall])).2
  rw [hall] at hrow0 hne
  simp only [] at hrow0 hne
  obtain ⟨i, hi, hidx⟩ := four_idx which hwh.1
  obtain ⟨bs, hbs, hb3s, hbl, hbn⟩ := four_by i hi
  have hcnt := hrow0.count
  rw [size_len] at hcnt
  have hbk := hrow0.blk_len bs.data.toList
  rw [size_len, size_len] at hbk
  have hT : (blkT s.data.toList bs.data.toList ms).length ≤ 6100 := by
    have : ms.length * bs.size ≤ 1501 * 3 := Nat.mul_le_mul (by omega) hb3s
    omega
  have hfit : ∀ m ∈ ms, m.a ≤ m.z ∧ m.z ≤ s.size := fun m hm => by
    obtain ⟨j, hj⟩ := List.mem_iff_getElem?.1 hm
    obtain ⟨q1, q2, -⟩ := hrow0.get hj
    rw [size_len] at q2
    exact ⟨q1, q2⟩
  have hblk := blk_all s.data.toList bs.data.toList hbl hbn ms 0 0 hrow0 hne
  obtain ⟨M, hM⟩ : ∃ M, blkM bs.data.toList.length 0 ms = M := ⟨_, rfl⟩
  have hMn : M ≠ [] := fun h => by
    have h1 := blkM_len bs.data.toList.length ms 0
    rw [hM, h] at h1
    exact hne (List.length_eq_zero_iff.1 h1.symm)
  rw [hM] at hblk
  have HNE := Lib.hid hne
  have HMN := Lib.hid hMn
  have HT := Lib.hid hT
  have HFIT := Lib.hid hfit
  have HBLK := Lib.hid hblk
  have HMM := Lib.hid hM
  have HBS := Lib.hid hbs
  have hms : ms.length ≤ 1501 := by omega
  have hsl : s.size ≤ 1500 := by omega
  clear he hall hrow0 hne hcnt hbk hT hfit hblk hMn hM hbs hbl hbn
  go_enter Tryd.func7, Tryd.ntmps7
  go_wp2_with fail
  refine (awake7_any _ henv).mono ?_
  rintro e w3 ⟨rfl, hb3⟩
  go_wp2_with fail
  refine (HR.out _ (henv.below hb3)).mono ?_
  rintro e w4 ⟨v, rfl, hm4, hb4⟩
  obtain ⟨g, cap, rfl, -, hmk⟩ := hm4.row HNE.out
  have hw4 := below_more hb3 hb4
  have hcell : (w4.alloc (.cells #[.string ⟨#[32]⟩, .string ⟨#[9]⟩, .string ⟨#[10, 13]⟩, .string ⟨#[32, 32, 9]⟩] 9)).cell? ⟨w4.heap.size, i, none⟩ = some (.string bs) := by rw [cell_al_eq _ _ _ _ _ rfl]; exact HBS.out
  have hi4 : (i : Int) < 4 := by omega
  have HMK : Hid (MkRow (w4.alloc (.cells #[.string ⟨#[32]⟩, .string ⟨#[9]⟩, .string ⟨#[10, 13]⟩, .string ⟨#[32, 32, 9]⟩] 9)) g ms) := hmk.al _
  clear hm4 hmk hb3 hb4
  go_wp2_with fail
  refine (blanked_any s bs ms g cap _ hsl hb3s hms HMK HFIT HT).mono ?_
  rintro e w5 ⟨o, v5, rfl, ho, hm5, hb5⟩
  have hw5 := below_more (bel_alloc hw4 _) hb5
  have hosz : o.size ≤ 6100 := by rw [← size_len, ho]; exact HT.out
  have hRo : allR o = (M, 0, 0) := by rw [allR_in' (by omega), ho]; exact HBLK.out
  have HRO := Lib.hid (fun W hE => lexAll_any o W (by omega) hE _ hRo)
  rw [HMM.out] at hm5
  clear ho hRo hcell
  go_wp2_with fail
  refine (HRO.out _ (henv.below hw5)).mono ?_
  rintro e w6 ⟨v6, rfl, hm6, hb6⟩
  have hw6 := below_more hw5 hb6
  have hm5 := hm5.keep hb6
  have hlm := marks_len hm6
  obtain ⟨g5, cap5, rfl, -, hmk5⟩ := hm5.row HMN.out
  obtain ⟨g6, cap6, rfl, -, hmk6⟩ := hm6.row HMN.out
  have HK5 := Lib.hid hmk5
  have HK6 := Lib.hid hmk6
  clear hm5 hm6 hmk5 hmk6 hw5 hb6 hb5 hw4 HRO HR
  go_wp2_with fail
  go_loopw [14] (fun i wr => ∃ k : Nat, k ≤ M.length ∧ i = .int .i64 k ∧ Below w6.heap.size w6 wr) (fun i _ => M.length - (intOf i).toNat)
  case atStart => exact ⟨0, Nat.zero_le _, rfl, Below.refl _ _⟩
  case round =>
    obtain ⟨k, hk, rfl, hBr⟩ := hrel
    by_cases hlt : k < M.length
    · obtain ⟨m, hm⟩ : ∃ m, M[k]? = some m := ⟨_, List.getElem?_eq_getElem (by omega)⟩
      obtain ⟨c0, c1, c2, c3, c4⟩ := HK5.out.keep hBr k m hm
      obtain ⟨d0, d1, d2, d3, d4⟩ := HK6.out.keep hBr k m hm
      clear hm
      go_wp2_with fail
      go_quiet (fail)
      go_wp2_with fail
      refine ⟨⟨k + 1, by omega, by go_num, bel_drewN hBr _⟩, by simp [intOf]; omega⟩
    · have hke : k = M.length := by omega
      subst hke
      go_wp2_with fail
      go_ret
      exact ⟨rfl, below_more hw6 hBr⟩
end Go.Proofs.YtkflnbmbkilicaaDoor
