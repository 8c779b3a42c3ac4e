/-
  legateref07.All: all marks of a text, by the document's words.
-/
import Derived.Test.YtkflnbmbkilicaaDoorRefNext
namespace Go.Proofs.YtkflnbmbkilicaaDoor
open Go.RowKit

theorem infoMark7 : (Tryd.prog.info? 34).map (fun i => (i.zero, i.size, i.bytes)) = some (some (.agg #[.int .u8 0, .int .i64 0, .int .i64 0, .int .i64 0, .string ⟨#[]⟩]), 5, 48) := by kernel_rfl
def Marks7Own (w : World) (B : Nat) (v : Value) (ms : List Mk) : Prop := w.ownsRow B 34 5 v ms.length (mksCells ms)
theorem Marks7Own.keep {w w' : World} {B : Nat} {v : Value} {ms : List Mk} (h : Marks7Own w B v ms) (hb : Below w.heap.size w w') : Marks7Own w' B v ms := ownsRow_keep h hb
def All7Post (R : Res) (w : World) (e : Ending) (w' : World) : Prop := ∃ v, e = .returned (.tuple #[v, .int .i64 (R.2.1 : Int), .int .i64 R.2.2]) ∧ Marks7Own w' w.heap.size v R.1 ∧ Below w.heap.size w w'
theorem nextM_tok (s : List UInt8) (q qz : Nat) (hqz : q + blanks (s.drop q) = qz) : nextM s q = tokR qz (tokP (s.drop qz)) := by rw [nextM_eq, hqz]
set_option maxRecDepth 100000 in
set_option maxHeartbeats 4000000 in
theorem refAll_any (s : ByteArray) (w : World) (hs : s.size ≤ 281474976710656) (R : Res) (hr : Hid (allR s = R)) :
    Calls Tryd.prog 16 #[.string s] w (All7Post R w) := by
  by_cases hlong : 65536 < s.size
  · have h := hr.out
    unfold allR at h
    rw [if_pos hlong] at h
    subst h
    have hl : (65536 : Int) < (s.size : Int) := by omega
    clear hr hlong
    go_enter Tryd.func16, Tryd.ntmps16
    go_wp2_with fail
    go_ret3
    exact ⟨_, rfl, World.ownsRow_nil _ _ _ _, Below.refl _ _⟩
  · have h := hr.out
    unfold allR at h
    rw [if_neg hlong] at h
    have hl : ¬ (65536 : Int) < (s.size : Int) := by omega
    have hnrm := all_norm s.data.toList.length s.data.toList 0 (Nat.le_refl _)
    have hR0 : consM [] (allP (s.data.toList.drop 0) 0) = R := by
      rw [List.drop_zero, consM_nil _ hnrm.1 (fun hh => (hnrm.2 hh).1), h]
    have HR0 := Lib.hid hR0
    have hs' : s.size ≤ 65536 := by omega
    obtain ⟨i0, hi, hz0, hz1, hz2⟩ := info_parts infoMark7
    have HI := Lib.hid hi
    have HZ0 := Lib.hid hz0
    have HZ1 := Lib.hid hz1
    have HZ2 := Lib.hid hz2
    clear hr hlong h hnrm hR0 hi hz0 hz1 hz2
    go_enter Tryd.func16, Tryd.ntmps16
    go_wp2_with fail
    go_loopw [5, 6] (fun sl p wr => ∃ (q : Nat) (ms : List Mk) (v : Value), q ≤ s.size ∧ p = .int .i64 q ∧ v = sl ∧ ms.length ≤ q ∧ Marks7Own wr w.heap.size v ms ∧ Below w.heap.size w wr ∧ Hid (consM ms (allP (s.data.toList.drop q) q) = R)) (fun _ p _ => s.size - (intOf p).toNat)
    case atStart => exact ⟨0, [], _, by omega, rfl, rfl, by simp, World.ownsRow_nil _ _ _ _, Below.refl _ _, HR0⟩
    case round =>
      obtain ⟨q, ms, v, hq, rfl, rfl, hml, hown, hBr, HQ⟩ := hrel
      clear HR0
      obtain ⟨qz, hqz⟩ : ∃ qz, q + blanks (s.data.toList.drop q) = qz := ⟨_, rfl⟩
      have hqs : qz ≤ s.size := by have := blanks_le (s.data.toList.drop q); rw [List.length_drop, size_len] at this; omega
      have hqle : q ≤ qz := by omega
      have HS := Lib.hid (fun W => behind_any s q W hs hq qz hqz)
      have hnm := nextM_tok s.data.toList q qz hqz
      have htB : tokB (s.data.toList.drop q) = tokP (s.data.toList.drop qz) := by unfold tokB; rw [List.drop_drop, hqz]
      rcases all_cases (s.data.toList.drop q) q with ⟨h1, h2⟩ | ⟨h1, h2, h3⟩ | ⟨h1, h2, h3, h4, h5, h6⟩
      · rw [hqz, htB] at h2
        rw [htB] at h1
        obtain ⟨er, her⟩ : ∃ er, (tokP (s.data.toList.drop qz)).e = er := ⟨_, rfl⟩
        rw [her] at h1 h2
        have HT := Lib.hid (fun W => refNext7_in s q W hs hq 0 0 0 0 ⟨#[]⟩ er (show resV (nextM s.data.toList q) = _ by rw [hnm]; unfold tokR; rw [her, if_pos h1]; rfl))
        have hfin := HQ.out
        rw [h2] at hfin
        unfold consM at hfin
        rw [if_pos h1] at hfin
        have HFIN := Lib.hid hfin
        have heb : (er != 0) = true := by rw [bne_iff_ne]; exact h1
        clear hfin h1 h2 her htB hqz HQ hnm
        go_wp2_with fail
        refine (HT.out _).mono ?_
        rintro e w3 ⟨rfl, hb3⟩
        go_wp2_with fail
        refine (HS.out _).mono ?_
        rintro e w5 ⟨rfl, rfl⟩
        go_wp2_with fail
        go_ret3
        rw [← HFIN.out]
        exact ⟨_, rfl, World.ownsRow_nil _ _ _ _, bel_alloc (below_more hBr hb3) _⟩
      · have htk : tokP (s.data.toList.drop qz) = ⟨11, 0, 0, [], 0⟩ := by rw [← htB]; unfold tokB; rw [h1]; rfl
        have hfin := HQ.out
        have hqe : q + (s.data.toList.drop q).length = qz := by rw [← h2]; exact hqz
        rw [h3, hqe] at hfin
        unfold consM at hfin
        rw [if_neg (by simp)] at hfin
        have HFIN := Lib.hid hfin
        have HTK := Lib.hid htk
        clear hfin h1 h2 h3 htk hqe
        have HT := Lib.hid (fun W => refNext7_in s q W hs hq 11 (qz : Int) (qz : Int) 0 ⟨#[]⟩ 0 (show resV (nextM s.data.toList q) = _ by rw [hnm]; rw [HTK.out]; rfl))
        have hown2 := fun (W : World) (hb : Below wr.heap.size wr W) => hown.keep hb
        have HO := Lib.hid hown
        have hlt2 := fun g hg => (World.ownsRow.lt hown g hg).2
        have HLT := Lib.hid hlt2
        clear hown2 hlt2 htB hqz HQ hnm
        go_wp2_with fail
        refine (HT.out _).mono ?_
        rintro e w3 ⟨rfl, hb3⟩
        have hown3 : Marks7Own (w3.alloc (.cells #[.int .u8 11, .int .i64 (qz : Int), .int .i64 (qz : Int), .int .i64 0, .string ⟨#[]⟩] 34)) w.heap.size v ms := (hown.keep hb3).keep (bel_alloc (Below.refl _ _) _)
        have hB3 : Below w.heap.size w w3 := below_more hBr hb3
        have hsz3 := hB3.size
        have hz3 := hb3.size
        go_wp2_with (at_builtin; refine wpList_append_own _ rfl _ _ 38 rfl w.heap.size 34 i0 (.agg #[.int .u8 0, .int .i64 0, .int .i64 0, .int .i64 0, .string ⟨#[]⟩]) 5 48 Tryd.underlying38 HI.out HZ0.out HZ1.out HZ2.out rfl (by decide) _ _ _ rfl (World.ownsRow.alloc hown3 _) ⟨w3.heap.size + 1, 0, none⟩ 1 1 [.int .u8 11, .int .i64 (qz : Int), .int .i64 (qz : Int), .int .i64 0, .string ⟨#[]⟩] rfl rfl ?c1 ?c2 ?c3 ?c4 ?c5 ?_)
        case c1 =>
          intro j u hj
          have hadd : (⟨w3.heap.size + 1, 0, none⟩ : Addr).add j = ⟨w3.heap.size + 1, j, none⟩ := by unfold Addr.add; split <;> simp_all
          rw [hadd, cell_al_eq _ _ _ _ _ (by rw [size_al])]
          simpa using hj
        case c2 =>
          intro u hu
          simp only [List.mem_cons, List.not_mem_nil, or_false] at hu
          rcases hu with rfl | rfl | rfl | rfl | rfl <;> rfl
        case c3 => unfold maxLen; omega
        case c4 => omega
        case c5 => rw [size_al, size_al]; omega
        intro v' w4 hown4 hgrow _
        have hne : some w3.heap.size ≠ v.ownBlock := by
          intro hh
          have := HLT.out _ hh.symm
          omega
        have k0 : w4.cell? ⟨w3.heap.size, 0, none⟩ = some (.int .u8 11) := hgrow.cell (by rw [cell_al_lt _ _ _ _ (by rw [size_al]; omega), cell_al_eq _ _ _ _ _ rfl]; rfl) hne
        have k2 : w4.cell? ⟨w3.heap.size, 2, none⟩ = some (.int .i64 (qz : Int)) := hgrow.cell (by rw [cell_al_lt _ _ _ _ (by rw [size_al]; omega), cell_al_eq _ _ _ _ _ rfl]; rfl) hne
        have hB4 : Below w.heap.size w w4 := (bel_alloc (bel_alloc hB3 _) _).grown hgrow (by rw [size_al, size_al]; omega) (fun g hg => (World.ownsRow.lt hown3 g hg).1)
        have hM4 : Marks7Own w4 w.heap.size v' (ms ++ [⟨11, qz, qz, 0, []⟩]) := by
          unfold Marks7Own
          rw [mksCells_snoc, List.length_append]
          exact hown4
        clear hgrow hown4 hown3 HO HLT hne
        go_wp2_with fail
        go_ret3
        have hfin := HFIN.out
        rw [← hfin]
        exact ⟨v', rfl, hM4, hB4⟩
      · rw [hqz, htB] at h6
        rw [htB] at h2 h3 h4 h5
        obtain ⟨k0', l0, n0, t0, e0, htk⟩ : ∃ k l n t e, tokP (s.data.toList.drop qz) = ⟨k, l, n, t, e⟩ := ⟨_, _, _, _, _, rfl⟩
        have hkb := tokP_ok (l := s.data.toList.drop qz) (by rw [← hqz, ← List.drop_drop]; exact h1) h2
        rw [htk] at h2 h3 h4 h5 h6 hkb
        simp only [] at h2 h3 h4 h5 h6 hkb
        subst h2
        have hdd : (s.data.toList.drop q).drop (blanks (s.data.toList.drop q) + l0) = s.data.toList.drop (qz + l0) := by rw [List.drop_drop, ← Nat.add_assoc, hqz]
        rw [hdd] at h6
        have hfin := HQ.out
        rw [h6, consM_consM] at hfin
        have HFIN : Hid (consM (ms ++ [⟨k0', qz, qz + l0, n0, t0⟩]) (allP (s.data.toList.drop (qz + l0)) (qz + l0)) = R) := hfin
        have HTK := Lib.hid htk
        rw [List.length_drop, size_len] at h5
        have hl0 : qz + l0 ≤ s.size := by omega
        have hkk : (k0' == 11) = false := beq_eq_false_iff_ne.2 h3
        obtain ⟨t1, ht1⟩ : ∃ t1 : ByteArray, t1 = ⟨t0.toArray⟩ := ⟨_, rfl⟩
        have HT1 := Lib.hid ht1
        clear hfin h1 h3 h5 h6 htk hdd hkb ht1
        have HT := Lib.hid (fun W => refNext7_in s q W hs hq k0' (qz : Int) ((qz : Int) + l0) n0 t1 0 (show resV (nextM s.data.toList q) = _ by rw [hnm]; rw [HTK.out, HT1.out]; unfold tokR; rw [if_neg (by simp)]; simp only [resV, Tok.at, Prod.mk.injEq, true_and, and_true]; omega))
        have hown2 := fun (W : World) (hb : Below wr.heap.size wr W) => hown.keep hb
        have HO := Lib.hid hown
        have hlt2 := fun g hg => (World.ownsRow.lt hown g hg).2
        have HLT := Lib.hid hlt2
        clear hown2 hlt2 htB hqz HQ hnm
        go_wp2_with fail
        refine (HT.out _).mono ?_
        rintro e w3 ⟨rfl, hb3⟩
        have hown3 : Marks7Own (w3.alloc (.cells #[.int .u8 k0', .int .i64 (qz : Int), .int .i64 ((qz : Int) + l0), .int .i64 n0, .string t1] 34)) w.heap.size v ms := (hown.keep hb3).keep (bel_alloc (Below.refl _ _) _)
        have hB3 : Below w.heap.size w w3 := below_more hBr hb3
        have hsz3 := hB3.size
        have hz3 := hb3.size
        go_wp2_with (at_builtin; refine wpList_append_own _ rfl _ _ 38 rfl w.heap.size 34 i0 (.agg #[.int .u8 0, .int .i64 0, .int .i64 0, .int .i64 0, .string ⟨#[]⟩]) 5 48 Tryd.underlying38 HI.out HZ0.out HZ1.out HZ2.out rfl (by decide) _ _ _ rfl (World.ownsRow.alloc hown3 _) ⟨w3.heap.size + 1, 0, none⟩ 1 1 [.int .u8 k0', .int .i64 (qz : Int), .int .i64 ((qz : Int) + l0), .int .i64 n0, .string t1] rfl rfl ?c1 ?c2 ?c3 ?c4 ?c5 ?_)
        case c1 =>
          intro j u hj
          have hadd : (⟨w3.heap.size + 1, 0, none⟩ : Addr).add j = ⟨w3.heap.size + 1, j, none⟩ := by unfold Addr.add; split <;> simp_all
          rw [hadd, cell_al_eq _ _ _ _ _ (by rw [size_al])]
          simpa using hj
        case c2 =>
          intro u hu
          simp only [List.mem_cons, List.not_mem_nil, or_false] at hu
          rcases hu with rfl | rfl | rfl | rfl | rfl <;> rfl
        case c3 => unfold maxLen; omega
        case c4 => omega
        case c5 => rw [size_al, size_al]; omega
        intro v' w4 hown4 hgrow _
        have hne : some w3.heap.size ≠ v.ownBlock := by
          intro hh
          have := HLT.out _ hh.symm
          omega
        have k0 : w4.cell? ⟨w3.heap.size, 0, none⟩ = some (.int .u8 k0') := hgrow.cell (by rw [cell_al_lt _ _ _ _ (by rw [size_al]; omega), cell_al_eq _ _ _ _ _ rfl]; rfl) hne
        have k2 : w4.cell? ⟨w3.heap.size, 2, none⟩ = some (.int .i64 ((qz : Int) + l0)) := hgrow.cell (by rw [cell_al_lt _ _ _ _ (by rw [size_al]; omega), cell_al_eq _ _ _ _ _ rfl]; rfl) hne
        have hB4 : Below w.heap.size w w4 := (bel_alloc (bel_alloc hB3 _) _).grown hgrow (by rw [size_al, size_al]; omega) (fun g hg => (World.ownsRow.lt hown3 g hg).1)
        have hM4 : Marks7Own w4 w.heap.size v' (ms ++ [⟨k0', qz, qz + l0, n0, t0⟩]) := by
          unfold Marks7Own
          rw [mksCells_snoc, List.length_append]
          have := hown4
          rw [HT1.out, ← Int.natCast_add] at this
          exact this
        clear hgrow hown4 hown3 HO HLT hne
        go_wp2_with fail
        refine ⟨⟨qz + l0, ms ++ [⟨k0', qz, qz + l0, n0, t0⟩], v', by omega, by go_num, rfl, by rw [List.length_append, List.length_singleton]; omega, hM4, hB4, HFIN⟩, by simp [intOf]; omega⟩
end Go.Proofs.YtkflnbmbkilicaaDoor
