/-
  lex.Next and lex.All.
-/
import Derived.Test.YtkflnbmbkilicaaDoorLexToken
namespace Go.Proofs.YtkflnbmbkilicaaDoor
open Go.RowKit

theorem infoMark : (Tryd.prog.info? 28).map (fun i => (i.zero, i.size, i.bytes)) = some (some (.agg #[.int .u8 0, .int .i64 0, .int .i64 0, .int .i64 0, .string ⟨#[]⟩]), 5, 48) := by kernel_rfl
/-- A mark's cells. -/
def mkCells (m : Mk) : List Value := [.int .u8 m.k, .int .i64 m.a, .int .i64 m.z, .int .i64 m.n, .string ⟨m.t.toArray⟩]
def mksCells (ms : List Mk) : List Value := ms.flatMap mkCells
theorem mksCells_len (ms : List Mk) : (mksCells ms).length = ms.length * 5 := by
  induction ms with
  | nil => rfl
  | cons m r ih => simp only [mksCells, List.flatMap_cons, List.length_append, List.length_cons] at *; rw [ih]; simp [mkCells]; omega
theorem mksCells_snoc (ms : List Mk) (m : Mk) : mksCells (ms ++ [m]) = mksCells ms ++ mkCells m := by simp [mksCells]
/-- A row of marks of the call's own. -/
def MarksOwn (w : World) (B : Nat) (v : Value) (ms : List Mk) : Prop := w.ownsRow B 28 5 v ms.length (mksCells ms)
theorem grown_of {w w' : World} (hb : Below w.heap.size w w') (row : Option Nat) : w.grownBy w' row := ⟨hb.os, hb.tape, hb.output, hb.size, fun k hk _ => hb.block k hk⟩
theorem ownsRow_keep {w w' : World} {B : Nat} {e : TypeId} {size : Nat} {v : Value} {n : Nat} {xs : List Value} (h : w.ownsRow B e size v n xs) (hb : Below w.heap.size w w') : w'.ownsRow B e size v n xs := by
  cases hv : v.ownBlock with
  | none => exact h.kept (grown_of hb none) (Or.inl hv)
  | some g => exact h.kept (grown_of hb none) (Or.inr (by rw [hv]; simp))
theorem MarksOwn.keep {w w' : World} {B : Nat} {v : Value} {ms : List Mk} (h : MarksOwn w B v ms) (hb : Below w.heap.size w w') : MarksOwn w' B v ms := ownsRow_keep h hb

set_option maxRecDepth 100000 in
set_option maxHeartbeats 2000000 in
theorem lexNext_out (s : ByteArray) (a : Int) (w : World) (h : a < 0 ∨ (s.size : Int) < a) :
    Calls Tryd.prog 14 #[.string s, .int .i64 a] w fun e w' => e = .returned (.tuple #[.agg #[.int .u8 0, .int .i64 0, .int .i64 0, .int .i64 0, .string ⟨#[]⟩], .int .i64 1]) ∧ Below w.heap.size w w' := by
  have h2 : a < 0 ∨ (¬ a < 0 ∧ (s.size : Int) < a) := by omega
  clear h
  rcases h2 with h | ⟨h, h'⟩
  all_goals
    go_enter Tryd.func14, Tryd.ntmps14
    go_wp2_with fail
    exact bodyPost_ret (v := .tuple #[.agg #[.int .u8 0, .int .i64 0, .int .i64 0, .int .i64 0, .string ⟨#[]⟩], .int .i64 1]) (by simp [results, Tryd.results14, go_sem]) rfl ⟨rfl, bel_alloc (Below.refl _ _) _⟩
theorem nextM_eq (l : List UInt8) (p : Nat) : nextM l p = tokR (p + blanks (l.drop p)) (tokP (l.drop (p + blanks (l.drop p)))) := by
  unfold nextM tokR tokB
  rw [List.drop_drop]
set_option maxRecDepth 100000 in
set_option maxHeartbeats 2000000 in
theorem lexNext_in (s : ByteArray) (a : Nat) (w : World) (hs : s.size ≤ 281474976710656) (ha : a ≤ s.size) (henv : NumEnv w) (k x z n : Int) (t : ByteArray) (er : Int) (hr : Hid (resV (nextM s.data.toList a) = (k, x, z, n, t, er))) :
    Calls Tryd.prog 14 #[.string s, .int .i64 a] w fun e w' => e = .returned (.tuple #[.agg #[.int .u8 k, .int .i64 x, .int .i64 z, .int .i64 n, .string t], .int .i64 er]) ∧ Below w.heap.size w w' := by
  obtain ⟨q, hq⟩ : ∃ q, a + blanks (s.data.toList.drop a) = q := ⟨_, rfl⟩
  have hqs : q ≤ s.size := by have := blanks_le (s.data.toList.drop a); rw [List.length_drop, size_len] at this; omega
  have h := hr.out
  rw [nextM_eq, hq] at h
  have HS := Lib.hid (fun W => skip_any s a W hs ha q hq)
  have HT := Lib.hid (fun W b hE hR => token_any s q b W hs hqs hE hR k x z n t er h)
  have hng : decide ((a : Int) < 0) = false := by simp
  have hlt : ¬ (s.size : Int) < (a : Int) := by omega
  clear h hr hq
  go_enter Tryd.func14, Tryd.ntmps14
  go_wp2_with fail
  refine (rules_any _).mono ?_
  rintro e w1 ⟨rfl, hb1⟩
  have hsz1 : w.heap.size < w1.heap.size := by have := hb1.size; simp at this; omega
  have hw1 : Below w.heap.size w w1 := below_more (bel_alloc (Below.refl _ _) _) hb1
  go_wp2_with (with_reducible refine wpList_store_row rfl 56 (.tmp 6) (.tmp 16) rfl w1.heap.size ruleT ?c1 ?c2 56 Tryd.zeroCells56 ?c3 ?c4 ?c5 ?c6 ?_)
  case c1 => rfl
  case c2 => rfl
  case c3 => exact heap_alloc_last w1 _
  case c4 => rw [ruleT_size]; exact infoRules
  case c5 => rw [ruleT_size]; exact ruleZ_size
  case c6 => exact ruleT_one'
  rw [World.setRow_alloc_new]
  have hR2 : RulesAt (w1.alloc (.cells ruleT 56)) w1.heap.size := heap_alloc_last w1 _
  have hw2 : Below w.heap.size w (w1.alloc (.cells ruleT 56)) := bel_alloc hw1 _
  have hE2 := henv.below hw2
  obtain ⟨hc1, hf1⟩ := bcell hb1
  clear hw1 hb1
  go_wp2_with fail
  refine (HS.out _).mono ?_
  rintro e w3 ⟨rfl, rfl⟩
  go_wp2_with fail
  refine (HT.out _ _ hE2 hR2).mono ?_
  rintro e w3 ⟨rfl, hb3⟩
  have hsz3 : w.heap.size < w3.heap.size := by have := hb3.size; rw [size_al] at this; omega
  obtain ⟨hc3, hf3⟩ := bcell hb3
  have d0 : w3.cell? ⟨w.heap.size, 0, none⟩ = some (.int .u8 0) := by
    rw [hc3 _ _ (by rw [size_al]; omega), cell_al_lt _ _ _ _ hsz1, hc1 _ _ (by rw [size_al]; omega), cell_al_eq _ _ _ _ _ rfl]; rfl
  have d1 : w3.cell? ⟨w.heap.size, 1, none⟩ = some (.int .i64 0) := by
    rw [hc3 _ _ (by rw [size_al]; omega), cell_al_lt _ _ _ _ hsz1, hc1 _ _ (by rw [size_al]; omega), cell_al_eq _ _ _ _ _ rfl]; rfl
  have d2 : w3.cell? ⟨w.heap.size, 2, none⟩ = some (.int .i64 0) := by
    rw [hc3 _ _ (by rw [size_al]; omega), cell_al_lt _ _ _ _ hsz1, hc1 _ _ (by rw [size_al]; omega), cell_al_eq _ _ _ _ _ rfl]; rfl
  have d3 : w3.cell? ⟨w.heap.size, 3, none⟩ = some (.int .i64 0) := by
    rw [hc3 _ _ (by rw [size_al]; omega), cell_al_lt _ _ _ _ hsz1, hc1 _ _ (by rw [size_al]; omega), cell_al_eq _ _ _ _ _ rfl]; rfl
  have d4 : w3.cell? ⟨w.heap.size, 4, none⟩ = some (.string ⟨#[]⟩) := by
    rw [hc3 _ _ (by rw [size_al]; omega), cell_al_lt _ _ _ _ hsz1, hc1 _ _ (by rw [size_al]; omega), cell_al_eq _ _ _ _ _ rfl]; rfl
  go_wp2_with fail
  exact bodyPost_ret (v := .tuple #[.agg #[.int .u8 k, .int .i64 x, .int .i64 z, .int .i64 n, .string t], .int .i64 er]) (by simp [results, Tryd.results14, go_sem, d0, d1, d2, d3, d4]) rfl ⟨rfl, bel_set5 (below_more hw2 hb3) (Nat.le_refl _) _ _ _ _ _⟩

/-! All. -/
theorem own_ne {w : World} {B : Nat} {e : TypeId} {size : Nat} {v : Value} {n : Nat} {xs : List Value} (h : w.ownsRow B e size v n xs) {b : Nat} {cs : Array Value} {t : TypeId} {fr : Nat × Nat} (hb : w.heap[b]? = some (.cells cs t fr)) (hne : t ≠ e) : some b ≠ v.ownBlock := by
  intro hv
  rcases h.2 with ⟨rfl, _⟩ | ⟨g, cap, cur, rfl, _, hg, _⟩
  · cases hv
  · have : b = g := by simpa [Value.ownBlock] using hv
    subst this
    rw [hb] at hg
    cases hg
    exact hne rfl
def AllPost (R : Res) (w : World) (e : Ending) (w' : World) : Prop := ∃ v, e = .returned (.tuple #[v, .int .i64 (R.2.1 : Int), .int .i64 R.2.2]) ∧ MarksOwn w' w.heap.size v R.1 ∧ Below w.heap.size w w'
def allR (s : ByteArray) : Res := if 65536 < s.size then ([], 0, 5) else allP s.data.toList 0
theorem markNew {_w : World} {k x z n : Int} {t : ByteArray} (m : Mk) (h : Hid (k = m.k ∧ x = (m.a : Int) ∧ z = (m.z : Int) ∧ n = m.n ∧ t = ⟨m.t.toArray⟩)) : [Value.int .u8 k, .int .i64 x, .int .i64 z, .int .i64 n, .string t] = mkCells m := by
  obtain ⟨rfl, rfl, rfl, rfl, rfl⟩ := h.out
  rfl
set_option maxRecDepth 100000 in
set_option maxHeartbeats 4000000 in
theorem lexAll_any (s : ByteArray) (w : World) (hs : s.size ≤ 281474976710656) (henv : NumEnv w) (R : Res) (hr : Hid (allR s = R)) :
    Calls Tryd.prog 13 #[.string s] w (AllPost R w) := by
  by_cases hlong : 65536 < s.size
  · have h := hr.out
    unfold allR at h
    rw [if_pos hlong] at h
    subst h
    have hl : (65536 : Int) < (s.size : Int) := by omega
    clear hr hlong
    go_enter Tryd.func13, Tryd.ntmps13
    go_wp2_with fail
    go_ret3
    exact ⟨_, rfl, World.ownsRow_nil _ _ _ _, Below.refl _ _⟩
  · have h := hr.out
    unfold allR at h
    rw [if_neg hlong] at h
    have hl : ¬ (65536 : Int) < (s.size : Int) := by omega
    have hnrm := all_norm s.data.toList.length s.data.toList 0 (Nat.le_refl _)
    have hR0 : consM [] (allP (s.data.toList.drop 0) 0) = R := by
      rw [List.drop_zero, consM_nil _ hnrm.1 (fun hh => (hnrm.2 hh).1), h]
    have HR0 := Lib.hid hR0
    have hs' : s.size ≤ 65536 := by omega
    obtain ⟨i0, hi, hz0, hz1, hz2⟩ := info_parts infoMark
    have HI := Lib.hid hi
    have HZ0 := Lib.hid hz0
    have HZ1 := Lib.hid hz1
    have HZ2 := Lib.hid hz2
    clear hr hlong h hnrm hR0 hi hz0 hz1 hz2
    go_enter Tryd.func13, Tryd.ntmps13
    go_wp2_with fail
    refine (rules_any _).mono ?_
    rintro e w1 ⟨rfl, hb1⟩
    go_wp2_with (with_reducible refine wpList_store_row rfl 56 (.tmp 5) (.tmp 12) rfl w1.heap.size ruleT ?c1 ?c2 56 Tryd.zeroCells56 ?c3 ?c4 ?c5 ?c6 ?_)
    case c1 => rfl
    case c2 => rfl
    case c3 => exact heap_alloc_last w1 _
    case c4 => rw [ruleT_size]; exact infoRules
    case c5 => rw [ruleT_size]; exact ruleZ_size
    case c6 => exact ruleT_one'
    rw [World.setRow_alloc_new]
    have hR2 : RulesAt (w1.alloc (.cells ruleT 56)) w1.heap.size := heap_alloc_last w1 _
    have hw2 : Below w.heap.size w (w1.alloc (.cells ruleT 56)) := bel_alloc hb1 _
    generalize w1.alloc (.cells ruleT 56) = w2 at hR2 hw2 ⊢
    generalize w1.heap.size = b at hR2 ⊢
    clear hb1
    go_loopw [2, 6] (fun sl p wr => ∃ (q : Nat) (ms : List Mk) (v : Value), q ≤ s.size ∧ p = .int .i64 q ∧ v = sl ∧ ms.length ≤ q ∧ MarksOwn wr w.heap.size v ms ∧ RulesAt wr b ∧ Below w.heap.size w wr ∧ Hid (consM ms (allP (s.data.toList.drop q) q) = R)) (fun _ p _ => s.size - (intOf p).toNat)
    case atStart => exact ⟨0, [], _, by omega, rfl, rfl, by simp, World.ownsRow_nil _ _ _ _, hR2, hw2, HR0⟩
    case round =>
      obtain ⟨q, ms, v, hq, rfl, rfl, hml, hown, hRr, hBr, HQ⟩ := hrel
      clear hR2 hw2 HR0
      have hEr := henv.below hBr
      obtain ⟨qz, hqz⟩ : ∃ qz, q + blanks (s.data.toList.drop q) = qz := ⟨_, rfl⟩
      have hqs : qz ≤ s.size := by have := blanks_le (s.data.toList.drop q); rw [List.length_drop, size_len] at this; omega
      have hqle : q ≤ qz := by omega
      have HS := Lib.hid (fun W => skip_any s q W hs hq qz hqz)
      have htB : tokB (s.data.toList.drop q) = tokP (s.data.toList.drop qz) := by unfold tokB; rw [List.drop_drop, hqz]
      rcases all_cases (s.data.toList.drop q) q with ⟨h1, h2⟩ | ⟨h1, h2, h3⟩ | ⟨h1, h2, h3, h4, h5, h6⟩
      · rw [hqz, htB] at h2
        rw [htB] at h1
        obtain ⟨er, her⟩ : ∃ er, (tokP (s.data.toList.drop qz)).e = er := ⟨_, rfl⟩
        rw [her] at h1 h2
        have HT := Lib.hid (fun W hE hR => token_any s qz b W hs hqs hE hR 0 0 0 0 ⟨#[]⟩ er (show resV (tokR qz (tokP (s.data.toList.drop qz))) = _ by unfold tokR; rw [her, if_pos h1]; rfl))
        have hfin := HQ.out
        rw [h2] at hfin
        unfold consM at hfin
        rw [if_pos h1] at hfin
        have HFIN := Lib.hid hfin
        have heb : (er != 0) = true := by rw [bne_iff_ne]; exact h1
        clear hfin h1 h2 her htB hqz HQ
        go_wp2_with fail
        refine (HS.out _).mono ?_
        rintro e w3 ⟨rfl, rfl⟩
        go_wp2_with fail
        refine (HT.out _ hEr hRr).mono ?_
        rintro e w3 ⟨rfl, hb3⟩
        go_wp2_with fail
        go_ret3
        rw [← HFIN.out]
        exact ⟨_, rfl, World.ownsRow_nil _ _ _ _, bel_alloc (below_more hBr hb3) _⟩
      · have htk : tokP (s.data.toList.drop qz) = ⟨11, 0, 0, [], 0⟩ := by rw [← htB]; unfold tokB; rw [h1]; rfl
        have hfin := HQ.out
        have hqe : q + (s.data.toList.drop q).length = qz := by rw [← h2]; exact hqz
        rw [h3, hqe] at hfin
        unfold consM at hfin
        rw [if_neg (by simp)] at hfin
        have HFIN := Lib.hid hfin
        have HTK := Lib.hid htk
        clear hfin h1 h2 h3 htk hqe
        have HT := Lib.hid (fun W hE hR => token_any s qz b W hs hqs hE hR 11 (qz : Int) (qz : Int) 0 ⟨#[]⟩ 0 (show resV (tokR qz (tokP (s.data.toList.drop qz))) = _ by rw [HTK.out]; rfl))
        have hown2 := fun (W : World) (hb : Below wr.heap.size wr W) => hown.keep hb
        have HO := Lib.hid hown
        have hlt2 := fun g hg => (World.ownsRow.lt hown g hg).2
        have HLT := Lib.hid hlt2
        clear hown2 hlt2 htB hqz HQ
        go_wp2_with fail
        refine (HS.out _).mono ?_
        rintro e w3 ⟨rfl, rfl⟩
        go_wp2_with fail
        refine (HT.out _ hEr hRr).mono ?_
        rintro e w3 ⟨rfl, hb3⟩
        have hown3 : MarksOwn (w3.alloc (.cells #[.int .u8 11, .int .i64 (qz : Int), .int .i64 (qz : Int), .int .i64 0, .string ⟨#[]⟩] 28)) w.heap.size v ms := (hown.keep hb3).keep (bel_alloc (Below.refl _ _) _)
        have hB3 : Below w.heap.size w w3 := below_more hBr hb3
        have hsz3 := hB3.size
        have hz3 := hb3.size
        have hR3 := hRr.keep hb3
        go_wp2_with (at_builtin; refine wpList_append_own _ rfl _ _ 23 rfl w.heap.size 28 i0 (.agg #[.int .u8 0, .int .i64 0, .int .i64 0, .int .i64 0, .string ⟨#[]⟩]) 5 48 Tryd.underlying23 HI.out HZ0.out HZ1.out HZ2.out rfl (by decide) _ _ _ rfl (World.ownsRow.alloc hown3 _) ⟨w3.heap.size + 1, 0, none⟩ 1 1 [.int .u8 11, .int .i64 (qz : Int), .int .i64 (qz : Int), .int .i64 0, .string ⟨#[]⟩] rfl rfl ?c1 ?c2 ?c3 ?c4 ?c5 ?_)
        case c1 =>
          intro j u hj
          have hadd : (⟨w3.heap.size + 1, 0, none⟩ : Addr).add j = ⟨w3.heap.size + 1, j, none⟩ := by unfold Addr.add; split <;> simp_all
          rw [hadd, cell_al_eq _ _ _ _ _ (by rw [size_al])]
          simpa using hj
        case c2 =>
          intro u hu
          simp only [List.mem_cons, List.not_mem_nil, or_false] at hu
          rcases hu with rfl | rfl | rfl | rfl | rfl <;> rfl
        case c3 => unfold maxLen; omega
        case c4 => omega
        case c5 => rw [size_al, size_al]; omega
        intro v' w4 hown4 hgrow _
        have hne : some w3.heap.size ≠ v.ownBlock := by
          intro hh
          have := HLT.out _ hh.symm
          omega
        have k0 : w4.cell? ⟨w3.heap.size, 0, none⟩ = some (.int .u8 11) := hgrow.cell (by rw [cell_al_lt _ _ _ _ (by rw [size_al]; omega), cell_al_eq _ _ _ _ _ rfl]; rfl) hne
        have k2 : w4.cell? ⟨w3.heap.size, 2, none⟩ = some (.int .i64 (qz : Int)) := hgrow.cell (by rw [cell_al_lt _ _ _ _ (by rw [size_al]; omega), cell_al_eq _ _ _ _ _ rfl]; rfl) hne
        have hB4 : Below w.heap.size w w4 := (bel_alloc (bel_alloc hB3 _) _).grown hgrow (by rw [size_al, size_al]; omega) (fun g hg => (World.ownsRow.lt hown3 g hg).1)
        have hR4 : RulesAt w4 b := by
          have hRa := (hR3.keep (bel_alloc (Below.refl _ _) (.cells #[.int .u8 11, .int .i64 (qz : Int), .int .i64 (qz : Int), .int .i64 0, .string ⟨#[]⟩] 28))).keep (bel_alloc (Below.refl _ _) (.cells #[.int .u8 11, .int .i64 (qz : Int), .int .i64 (qz : Int), .int .i64 0, .string ⟨#[]⟩] 28))
          unfold RulesAt
          rw [hgrow.block b hRa.lt (own_ne (World.ownsRow.alloc hown3 _) hRa (by decide))]
          exact hRa
        have hM4 : MarksOwn w4 w.heap.size v' (ms ++ [⟨11, qz, qz, 0, []⟩]) := by
          unfold MarksOwn
          rw [mksCells_snoc, List.length_append]
          exact hown4
        clear hgrow hown4 hown3 HO HLT hne
        go_wp2_with fail
        go_ret3
        have hfin := HFIN.out
        rw [← hfin]
        exact ⟨v', rfl, hM4, hB4⟩
      · rw [hqz, htB] at h6
        rw [htB] at h2 h3 h4 h5
        obtain ⟨k0', l0, n0, t0, e0, htk⟩ : ∃ k l n t e, tokP (s.data.toList.drop qz) = ⟨k, l, n, t, e⟩ := ⟨_, _, _, _, _, rfl⟩
        have hkb := tokP_ok (l := s.data.toList.drop qz) (by rw [← hqz, ← List.drop_drop]; exact h1) h2
        rw [htk] at h2 h3 h4 h5 h6 hkb
        simp only [] at h2 h3 h4 h5 h6 hkb
        subst h2
        have hdd : (s.data.toList.drop q).drop (blanks (s.data.toList.drop q) + l0) = s.data.toList.drop (qz + l0) := by rw [List.drop_drop, ← Nat.add_assoc, hqz]
        rw [hdd] at h6
        have hfin := HQ.out
        rw [h6, consM_consM] at hfin
        have HFIN : Hid (consM (ms ++ [⟨k0', qz, qz + l0, n0, t0⟩]) (allP (s.data.toList.drop (qz + l0)) (qz + l0)) = R) := hfin
        have HTK := Lib.hid htk
        rw [List.length_drop, size_len] at h5
        have hl0 : qz + l0 ≤ s.size := by omega
        have hkk : (k0' == 11) = false := beq_eq_false_iff_ne.2 h3
        obtain ⟨t1, ht1⟩ : ∃ t1 : ByteArray, t1 = ⟨t0.toArray⟩ := ⟨_, rfl⟩
        have HT1 := Lib.hid ht1
        clear hfin h1 h3 h5 h6 htk hdd hkb ht1
        have HT := Lib.hid (fun W hE hR => token_any s qz b W hs hqs hE hR k0' (qz : Int) ((qz : Int) + l0) n0 t1 0 (show resV (tokR qz (tokP (s.data.toList.drop qz))) = _ by rw [HTK.out, HT1.out]; unfold tokR; rw [if_neg (by simp)]; simp only [resV, Tok.at, Prod.mk.injEq, true_and, and_true]; omega))
        have hown2 := fun (W : World) (hb : Below wr.heap.size wr W) => hown.keep hb
        have HO := Lib.hid hown
        have hlt2 := fun g hg => (World.ownsRow.lt hown g hg).2
        have HLT := Lib.hid hlt2
        clear hown2 hlt2 htB hqz HQ
        go_wp2_with fail
        refine (HS.out _).mono ?_
        rintro e w3 ⟨rfl, rfl⟩
        go_wp2_with fail
        refine (HT.out _ hEr hRr).mono ?_
        rintro e w3 ⟨rfl, hb3⟩
        have hown3 : MarksOwn (w3.alloc (.cells #[.int .u8 k0', .int .i64 (qz : Int), .int .i64 ((qz : Int) + l0), .int .i64 n0, .string t1] 28)) w.heap.size v ms := (hown.keep hb3).keep (bel_alloc (Below.refl _ _) _)
        have hB3 : Below w.heap.size w w3 := below_more hBr hb3
        have hsz3 := hB3.size
        have hz3 := hb3.size
        have hR3 := hRr.keep hb3
        go_wp2_with (at_builtin; refine wpList_append_own _ rfl _ _ 23 rfl w.heap.size 28 i0 (.agg #[.int .u8 0, .int .i64 0, .int .i64 0, .int .i64 0, .string ⟨#[]⟩]) 5 48 Tryd.underlying23 HI.out HZ0.out HZ1.out HZ2.out rfl (by decide) _ _ _ rfl (World.ownsRow.alloc hown3 _) ⟨w3.heap.size + 1, 0, none⟩ 1 1 [.int .u8 k0', .int .i64 (qz : Int), .int .i64 ((qz : Int) + l0), .int .i64 n0, .string t1] rfl rfl ?c1 ?c2 ?c3 ?c4 ?c5 ?_)
        case c1 =>
          intro j u hj
          have hadd : (⟨w3.heap.size + 1, 0, none⟩ : Addr).add j = ⟨w3.heap.size + 1, j, none⟩ := by unfold Addr.add; split <;> simp_all
          rw [hadd, cell_al_eq _ _ _ _ _ (by rw [size_al])]
          simpa using hj
        case c2 =>
          intro u hu
          simp only [List.mem_cons, List.not_mem_nil, or_false] at hu
          rcases hu with rfl | rfl | rfl | rfl | rfl <;> rfl
        case c3 => unfold maxLen; omega
        case c4 => omega
        case c5 => rw [size_al, size_al]; omega
        intro v' w4 hown4 hgrow _
        have hne : some w3.heap.size ≠ v.ownBlock := by
          intro hh
          have := HLT.out _ hh.symm
          omega
        have k0 : w4.cell? ⟨w3.heap.size, 0, none⟩ = some (.int .u8 k0') := hgrow.cell (by rw [cell_al_lt _ _ _ _ (by rw [size_al]; omega), cell_al_eq _ _ _ _ _ rfl]; rfl) hne
        have k2 : w4.cell? ⟨w3.heap.size, 2, none⟩ = some (.int .i64 ((qz : Int) + l0)) := hgrow.cell (by rw [cell_al_lt _ _ _ _ (by rw [size_al]; omega), cell_al_eq _ _ _ _ _ rfl]; rfl) hne
        have hB4 : Below w.heap.size w w4 := (bel_alloc (bel_alloc hB3 _) _).grown hgrow (by rw [size_al, size_al]; omega) (fun g hg => (World.ownsRow.lt hown3 g hg).1)
        have hR4 : RulesAt w4 b := by
          have hRa := (hR3.keep (bel_alloc (Below.refl _ _) (.cells #[.int .u8 k0', .int .i64 (qz : Int), .int .i64 ((qz : Int) + l0), .int .i64 n0, .string t1] 28))).keep (bel_alloc (Below.refl _ _) (.cells #[.int .u8 k0', .int .i64 (qz : Int), .int .i64 ((qz : Int) + l0), .int .i64 n0, .string t1] 28))
          unfold RulesAt
          rw [hgrow.block b hRa.lt (own_ne (World.ownsRow.alloc hown3 _) hRa (by decide))]
          exact hRa
        have hM4 : MarksOwn w4 w.heap.size v' (ms ++ [⟨k0', qz, qz + l0, n0, t0⟩]) := by
          unfold MarksOwn
          rw [mksCells_snoc, List.length_append]
          have := hown4
          rw [HT1.out, ← Int.natCast_add] at this
          exact this
        clear hgrow hown4 hown3 HO HLT hne
        go_wp2_with fail
        refine ⟨⟨qz + l0, ms ++ [⟨k0', qz, qz + l0, n0, t0⟩], v', by omega, by go_num, rfl, by rw [List.length_append, List.length_singleton]; omega, hM4, hR4, hB4, HFIN⟩, by simp [intOf]; omega⟩
end Go.Proofs.YtkflnbmbkilicaaDoor
