/-
  legateref10: the document's form of a text, walked.
-/
import Derived.Test.YtjekdhahbkofbaaDoorValRef3
import Derived.Test.YtjekdhahbkofbaaDoorCanonPlain
import Derived.Deep.AppendLies
import Derived.Laws.IdiomStrings
import Derived.Lib.SmallJoins
namespace Go.Proofs.YtjekdhahbkofbaaDoor
open Go.RowKit

theorem infoU8 : (Tryd.prog.info? 5).map (fun i => (i.zero, i.size, i.bytes)) = some (some (.int .u8 0), 1, 1) := by kernel_rfl
/-- Bytes as cells. -/
def byteVs (l : List UInt8) : List Value := l.map fun c => Value.int .u8 (c.toNat : Int)
theorem byteVs_snoc (l : List UInt8) (c : UInt8) : byteVs (l ++ [c]) = byteVs l ++ [.int .u8 (c.toNat : Int)] := by simp [byteVs]
theorem byteVs_len (l : List UInt8) : (byteVs l).length = l.length := by simp [byteVs]
/-- A row of bytes of the call's own. -/
def OwnB (w : World) (B : Nat) (g n cap : Nat) (l : List UInt8) : Prop := n = l.length ∧ w.ownsRow B 5 1 (.slice (some ⟨g, 0, none⟩) n cap) n (byteVs l)
theorem OwnB.conv {w : World} {B g n cap : Nat} {l : List UInt8} (h : OwnB w B g n cap l) :
    (convert 45 9 (.slice (some ⟨g, 0, none⟩) n cap)).run Tryd.prog w = .ok (.string ⟨l.toArray⟩) w := by
  obtain ⟨rfl, h⟩ := h
  refine run_convert_bytes_back w _ _ _ ⟨g, 0, none⟩ cap l Tryd.underlying45 Tryd.underlying5 Tryd.underlying9 fun j hj => ?_
  exact h.cells rfl j _ (by simp [byteVs, List.getElem?_eq_getElem hj])
theorem own_first (w : World) (c : UInt8) : OwnB (w.alloc (.cells #[.int .u8 (c.toNat : Int)] 5)) w.heap.size w.heap.size 1 1 [c] := by
  refine ⟨rfl, by simp [byteVs], Or.inr ⟨w.heap.size, 1, #[.int .u8 (c.toNat : Int)], rfl, Nat.le_refl _, ?_, Nat.le_refl _, by decide, rfl, rfl⟩⟩
  show (w.heap.push _)[w.heap.size]? = _
  simp
theorem OwnB.more {w w2 : World} {B g n cap g2 cap2 : Nat} {l : List UInt8} {c : UInt8} (h : OwnB w B g n cap l) (h2 : w2.ownsRow B 5 1 (.slice (some ⟨g2, 0, none⟩) (n + 1) cap2) (n + 1) (byteVs l ++ [.int .u8 (c.toNat : Int)])) : OwnB w2 B g2 (n + 1) cap2 (l ++ [c]) :=
  ⟨by rw [h.1]; simp, by rw [byteVs_snoc]; exact h2⟩
theorem one_news (w : World) (c : Int) : ∀ j u, [Value.int .u8 c][j]? = some u → (w.alloc (.cells #[.int .u8 c] 5)).cell? ((⟨w.heap.size, 0, none⟩ : Addr).add j) = some u := by
  intro j u hj
  match j, hj with
  | 0, hj =>
    simp at hj
    subst hj
    exact (cell_al_eq w #[.int .u8 c] _ w.heap.size 0 rfl).trans rfl
theorem one_cell (c : Int) : ∀ u ∈ [Value.int .u8 c], u.oneCell' = true := by intro u hu; simp at hu; subst hu; rfl
theorem grown_below {w wr w2 : World} {o : Obj} {g n cap : Nat} (hB : Below w.heap.size w wr) (hg : w.heap.size ≤ g) (hgrow : (wr.alloc o).grownBy w2 (Value.slice (some ⟨g, 0, none⟩) n cap).ownBlock) : Below w.heap.size w w2 := by
  refine (bel_alloc hB _).grown hgrow (by have := hB.size; rw [size_al]; omega) (fun kk hkk => ?_)
  simp [Value.ownBlock] at hkk
  omega
theorem escB_yes {c : UInt8} (h : c.toNat = 34 ∨ c.toNat = 92) : escB c = [92, c] := by unfold escB; rw [if_pos h]
theorem escB_no {c : UInt8} (h : ¬ (c.toNat = 34 ∨ c.toNat = 92)) : escB c = [c] := by unfold escB; rw [if_neg h]
theorem escL_snoc (l : List UInt8) (c : UInt8) : escL (l ++ [c]) = escL l ++ escB c := by simp [escL]

set_option maxRecDepth 100000 in
set_option maxHeartbeats 2000000 in
theorem refTextForm_any (s : ByteArray) (w : World) (hs : s.size ≤ 1000000000) :
    Calls Tryd.prog 51 #[.string s] w fun e w' => e = .returned (.string ⟨(quoteL s.data.toList).toArray⟩) ∧ Below w.heap.size w w' := by
  obtain ⟨i0, hi, hz0, hz1, hz2⟩ := info_parts infoU8
  go_enter Tryd.func51, Tryd.ntmps51
  go_wp2_with fail
  go_loopw [3, 4] (fun v i wr => ∃ (k g n cap : Nat), k ≤ s.size ∧ i = .int .i64 k ∧ v = .slice (some ⟨g, 0, none⟩) n cap ∧ n ≤ 2000000001 ∧ w.heap.size ≤ g ∧ OwnB wr w.heap.size g n cap (34 :: escL (s.data.toList.take k)) ∧ Below w.heap.size w wr) (fun _ i _ => s.size - (intOf i).toNat)
  case atStart => exact ⟨0, w.heap.size, 1, 1, by omega, rfl, rfl, by omega, by omega, own_first w 34, bel_alloc (Below.refl _ _) _⟩
  case round =>
    obtain ⟨k, g, n, cap, hk, rfl, rfl, hn, hgw, hO, hB⟩ := hrel
    have hown := hO.2
    have HO := Lib.hid hO
    clear hO
    have hsz := hB.size
    by_cases hkl : k < s.size
    · have hts := take_snoc s k hkl
      have hg1 : (s[k].toNat : Int) ≤ 255 := by have := u8_lt s[k]; omega
      have HTS := Lib.hid hts
      have hlen : n + 2 ≤ 2000000001 := by
        have h1 := HO.out.1
        have h2 := escL_len (s.data.toList.take k)
        rw [List.length_take, size_len] at h2
        simp only [List.length_cons] at h1
        omega
      clear hts
      have hj0 : (0 : Int) ≤ (k : Int) := by omega
      have hj1 : (k : Int) < (s.size : Int) := by omega
      by_cases hc : s[k].toNat = 34 ∨ s[k].toNat = 92
      · have hesc : 34 :: escL (s.data.toList.take (k + 1)) = (34 :: escL (s.data.toList.take k)) ++ [92] ++ [s[k]] := by
          rw [HTS.out, escL_snoc, escB_yes hc]; simp
        have HESC := Lib.hid hesc
        have hcb : ((s[k].toNat : Int) == 34) = true ∨ (((s[k].toNat : Int) == 34) = false ∧ ((s[k].toNat : Int) == 92) = true) := by
          rcases hc with hc | hc
          · left; rw [hc]; rfl
          · right; rw [hc]; exact ⟨rfl, rfl⟩
        clear hesc hc
        rcases hcb with hcb | ⟨hcb, hcb2⟩
        all_goals
          go_wp2_with (at_builtin; refine wpList_append_lies _ rfl _ _ 45 rfl w.heap.size 5 i0 (.int .u8 0) 1 1 Tryd.underlying45 hi hz0 hz1 hz2 rfl (by decide) _ _ _ rfl (hown.alloc _) ⟨wr.heap.size, 0, none⟩ 1 1 [.int .u8 92] rfl rfl (one_news _ _) (one_cell _) (by decide) ?c3 ?c4 ?c5 (wr.heap.size + 1) (by simp) ?_)
          case c3 => unfold maxLen; omega
          case c4 => omega
          case c5 => simp; omega
          intro g2 cap2 w2 hown2 hgrow hat hlt
          have hO2 : OwnB w2 w.heap.size g2 (n + 1) cap2 ((34 :: escL (s.data.toList.take k)) ++ [92]) := HO.out.more (c := 92) hown2
          have hB2 := grown_below hB hgw hgrow
          have hg2 : w.heap.size ≤ g2 := by
            rcases hat with h | h
            · simp [Value.ownBlock] at h; omega
            · omega
          have hsz2 := hB2.size
          have hown3 := hO2.2
          have HO2 := Lib.hid hO2
          clear hown2 hgrow hat hO2
          go_wp2_with (at_builtin; refine wpList_append_lies _ rfl _ _ 45 rfl w.heap.size 5 i0 (.int .u8 0) 1 1 Tryd.underlying45 hi hz0 hz1 hz2 rfl (by decide) _ _ _ rfl (hown3.alloc _) ⟨w2.heap.size, 0, none⟩ 1 1 [.int .u8 (s[k].toNat : Int)] rfl rfl (one_news _ _) (one_cell _) (by decide) ?c3 ?c4 ?c5 (w2.heap.size + 1) (by simp) ?_)
          case c3 => unfold maxLen; omega
          case c4 => omega
          case c5 => simp; omega
          intro g3 cap3 w3 hown4 hgrow3 hat3 hlt3
          have hO3 := HO2.out.more (c := s[k]) hown4
          have hB3 := grown_below hB2 hg2 hgrow3
          have hg3 : w.heap.size ≤ g3 := by
            rcases hat3 with h | h
            · simp [Value.ownBlock] at h; omega
            · omega
          rw [← HESC.out] at hO3
          clear hown3 hown4 hgrow3 hat3
          go_wp2_with fail
          exact ⟨⟨k + 1, g3, n + 1 + 1, cap3, by omega, by go_num, rfl, by omega, hg3, hO3, hB3⟩, by simp [intOf]; omega⟩
      · have hesc : 34 :: escL (s.data.toList.take (k + 1)) = (34 :: escL (s.data.toList.take k)) ++ [s[k]] := by
          rw [HTS.out, escL_snoc, escB_no hc]; simp
        have HESC := Lib.hid hesc
        have hcb : ((s[k].toNat : Int) == 34) = false := beq_eq_false_iff_ne.2 (by omega)
        have hcb2 : ((s[k].toNat : Int) == 92) = false := beq_eq_false_iff_ne.2 (by omega)
        clear hesc hc
        go_wp2_with (at_builtin; refine wpList_append_lies _ rfl _ _ 45 rfl w.heap.size 5 i0 (.int .u8 0) 1 1 Tryd.underlying45 hi hz0 hz1 hz2 rfl (by decide) _ _ _ rfl (hown.alloc _) ⟨wr.heap.size, 0, none⟩ 1 1 [.int .u8 (s[k].toNat : Int)] rfl rfl (one_news _ _) (one_cell _) (by decide) ?c3 ?c4 ?c5 (wr.heap.size + 1) (by simp) ?_)
        case c3 => unfold maxLen; omega
        case c4 => omega
        case c5 => simp; omega
        intro g3 cap3 w3 hown4 hgrow3 hat3 hlt3
        have hO3 := HO.out.more (c := s[k]) hown4
        have hB3 := grown_below hB hgw hgrow3
        have hg3 : w.heap.size ≤ g3 := by
          rcases hat3 with h | h
          · simp [Value.ownBlock] at h; omega
          · omega
        rw [← HESC.out] at hO3
        clear hown4 hgrow3 hat3
        go_wp2_with fail
        exact ⟨⟨k + 1, g3, n + 1, cap3, by omega, by go_num, rfl, by omega, hg3, hO3, hB3⟩, by simp [intOf]; omega⟩
    · have hall : (34 :: escL (s.data.toList.take k)) = 34 :: escL s.data.toList := by rw [List.take_of_length_le (by rw [size_len]; omega)]
      have HALL := Lib.hid hall
      clear hall
      go_wp2_with (at_builtin; refine wpList_append_lies _ rfl _ _ 45 rfl w.heap.size 5 i0 (.int .u8 0) 1 1 Tryd.underlying45 hi hz0 hz1 hz2 rfl (by decide) _ _ _ rfl (hown.alloc _) ⟨wr.heap.size, 0, none⟩ 1 1 [.int .u8 34] rfl rfl ?c1 ?c2 (by decide) ?c3 ?c4 ?c5 (wr.heap.size + 1) (by simp) ?_)
      case c1 =>
        intro j u hj
        match j, hj with
        | 0, hj => simp at hj; subst hj; simp [Addr.add]
      case c2 => intro u hu; simp at hu; subst hu; rfl
      case c3 => unfold maxLen; omega
      case c4 => omega
      case c5 => simp; omega
      intro g2 cap2 w2 hown2 hgrow hat hlt
      have hO2 : OwnB w2 w.heap.size g2 (n + 1) cap2 (quoteL s.data.toList) := by
        refine ⟨?_, ?_⟩
        · rw [HO.out.1, HALL.out, quoteL]; simp
        · have e : byteVs (quoteL s.data.toList) = byteVs (34 :: escL (s.data.toList.take k)) ++ [.int .u8 34] := by
            rw [HALL.out, quoteL, ← List.cons_append, byteVs_snoc]; rfl
          rw [e]; exact hown2
      have hcv := hO2.conv
      have hB2 : Below w.heap.size w w2 := by
        refine (bel_alloc hB _).grown hgrow (by simp; omega) (fun kk hkk => ?_)
        simp [Value.ownBlock] at hkk
        omega
      clear hown2 hgrow hat
      go_wp2_with fail
      go_ret
      exact ⟨rfl, hB2⟩
end Go.Proofs.YtjekdhahbkofbaaDoor
