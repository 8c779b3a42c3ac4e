/-
  The walk of the law LexAlone.
-/
import Derived.Test.YtkflnbmbkilicaaDoorLexAwake
import Derived.Laws.StructEq
import Derived.Deep.QuietTactic
import Derived.BigQuiet
namespace Go.Proofs.YtkflnbmbkilicaaDoor
open Go.RowKit

theorem RowP.get {s : List UInt8} : ∀ {ms : List Mk} {p : Nat}, RowP s p ms → ∀ {i : Nat} {m : Mk}, ms[i]? = some m → m.a ≤ m.z ∧ m.z ≤ s.length ∧ MarkAt s m
  | [], _, _, i, m, h => by simp at h
  | x :: r, p, hr, 0, m, h => by
    simp at h; subst h
    exact ⟨hr.2.1, hr.2.2.1, hr.2.2.2.2.2.2.2.2.2.2.1⟩
  | x :: r, p, hr, i + 1, m, h => RowP.get hr.2.2.2.2.2.2.2.2.2.2.2 (i := i) (by simpa using h)
theorem allR_ext {s : ByteArray} (hs : s.size ≤ 65536) (a z : Nat) : allR (s.extract a z) = allP ((s.data.toList.drop a).take (z - a)) 0 := by
  rw [← Lib.extract_data]
  unfold allR
  rw [if_neg]
  rw [show (s.extract a z).size = min z s.size - a from ByteArray.size_extract]
  omega
theorem marks_len {w : World} {B : Nat} {v : Value} {ms : List Mk} (h : MarksOwn w B v ms) : ms.length ≤ 9223372036854775807 := by
  rcases h.2 with ⟨_, h0⟩ | ⟨g, cap, cur, _, _, _, h1, h2, _⟩
  · omega
  · unfold maxLen at h2; omega
theorem size_set (w : World) (a : Addr) (v : Value) : (w.setCell a v).heap.size = w.heap.size := by simp
theorem cell_set_ne {w : World} {a p : Addr} (v : Value) (h : p.block ≠ a.block) : (w.setCell a v).cell? p = w.cell? p := World.cell?_of_block (heap_setCell_other w a p.block v h)
theorem idx_of (which : Int) (n : Nat) (h : 0 < n) : ∃ i : Nat, i < n ∧ (IntKind.u64.wrap which).tmod (n : Int) = (i : Int) := by
  have h0 : 0 ≤ IntKind.u64.wrap which := by rw [IntKind.wrap_u64]; omega
  refine ⟨((IntKind.u64.wrap which).tmod n).toNat, ?_, ?_⟩
  · have h1 := Int.tmod_lt_of_pos (IntKind.u64.wrap which) (show (0 : Int) < (n : Int) by omega)
    have h2 := Int.tmod_nonneg (n : Int) h0
    omega
  · have h2 := Int.tmod_nonneg (n : Int) h0
    omega
set_option maxRecDepth 100000 in
set_option maxHeartbeats 8000000 in
theorem lexAlone_walk (s : ByteArray) (which : Int) (w : World) (w0 : s.size ≤ maxLen) (_wh : (Lit.int .i64 which).wf = true) (henv : NumEnv w) :
    Calls Tryd.prog 9 #[.string s, .int .i64 which] w fun e w' => e = .returned (.bool true) ∧ Below w.heap.size w w' := by
  unfold maxLen at w0
  clear _wh
  by_cases hl : 3000 < s.size
  · have hd : decide (3000 < (s.size : Int)) = true := by simp; omega
    go_enter Tryd.func9, Tryd.ntmps9
    go_wp2_with fail
    refine (awake7_any _ henv).mono ?_
    rintro e w3 ⟨rfl, hb3⟩
    go_wp2_with fail
    go_ret
    exact ⟨rfl, hb3⟩
  · have hd : decide (3000 < (s.size : Int)) = false := by simp; omega
    have hs : s.size ≤ 281474976710656 := by omega
    obtain ⟨ms, pl, er, hR⟩ : ∃ ms pl er, allR s = (ms, pl, er) := ⟨_, _, _, rfl⟩
    have hall : allP s.data.toList 0 = (ms, pl, er) := by rw [← hR]; unfold allR; rw [if_neg (by omega)]
    have HR := Lib.hid hR
    clear hR
    by_cases he : er ≠ 0
    · have heb : (er != 0) = true := by rw [bne_iff_ne]; exact he
      clear he hall
      go_enter Tryd.func9, Tryd.ntmps9
      go_wp2_with fail
      refine (awake7_any _ henv).mono ?_
      rintro e w3 ⟨rfl, hb3⟩
      go_wp2_with fail
      refine (lexAll_any s _ hs (henv.below hb3) _ HR).mono ?_
      rintro e w4 ⟨v, rfl, hm4, hb4⟩
      obtain ⟨a4, c4, rfl⟩ := hm4.slice
      clear hm4
      go_wp2_with fail
      go_ret
      exact ⟨rfl, below_more hb3 hb4⟩
    · have he0 : er = 0 := by simpa using he
      subst he0
      have hrow0 := all_row s.data.toList _ s.data.toList 0 (Nat.le_refl _) (Nat.zero_le _) rfl (by rw [hall])
      have hne := (all_ne _ s.data.toList 0 (Nat.le_refl _) (by rw [hall])).2
      rw [hall] at hrow0 hne
      simp only [] at hrow0 hne
      have hpos : 0 < ms.length := List.length_pos_iff.2 hne
      obtain ⟨i, hi, hidx⟩ := idx_of which ms.length hpos
      have HNE := Lib.hid hne
      have HIDX := Lib.hid hidx
      obtain ⟨m, hm⟩ : ∃ m, ms[i]? = some m := ⟨_, List.getElem?_eq_getElem hi⟩
      obtain ⟨q1, q2, q3⟩ := hrow0.get hm
      rw [size_len] at q2
      have hnx := next_of q3
      have hal := alone_mark q3
      have hend : m.k = 11 → s.data.toList.drop m.a = [] := fun hk => (tok_end q3.1).1 (by rw [← (mark_bytes q3).2.2.1]; exact hk)
      have HM := Lib.hid hm
      obtain ⟨k, a, z, n, t⟩ := m
      simp only [] at q1 q2 hnx hal hend
      have HX := Lib.hid (fun W hE => lexNext_in s a W hs (by omega) hE k a z n ⟨t.toArray⟩ 0 (show resV (nextM s.data.toList a) = _ by rw [hnx]; rfl))
      have hlen2 : (s.extract a z).size ≤ 281474976710656 := by rw [show (s.extract a z).size = min z s.size - a from ByteArray.size_extract]; omega
      clear he hall hrow0 hne hidx hm hnx q3
      by_cases hk : k = 11
      · subst hk
        have hre : allR (s.extract a z) = ([⟨11, 0, 0, 0, []⟩], 0, 0) := by rw [allR_ext (by omega), hend rfl, List.take_nil, alone_end]
        have HA := Lib.hid (fun W hE => lexAll_any (s.extract a z) W hlen2 hE _ hre)
        clear hal hend hre hlen2
        go_enter Tryd.func9, Tryd.ntmps9
        go_wp2_with fail
        refine (awake7_any _ henv).mono ?_
        rintro e w1 ⟨rfl, hb1⟩
        go_wp2_with fail
        refine (lexAll_any s _ hs (henv.below hb1) _ HR).mono ?_
        rintro e w2 ⟨v, rfl, hm2, hb2⟩
        have hml := marks_len hm2
        obtain ⟨g, cap, rfl, -, hmk⟩ := hm2.row HNE.out
        obtain ⟨c0, c1, c2, c3, c4⟩ := hmk i _ HM.out
        have hw2 := below_more hb1 hb2
        have hidx := HIDX.out
        clear hm2 hmk hb1 hb2
        go_wp2_with fail
        refine (HA.out _ (henv.below (bel_alloc hw2 _))).mono ?_
        rintro e w3 ⟨v3, rfl, hm3, hb3⟩
        obtain ⟨a3, cp3, rfl⟩ := hm3.slice
        have hw3 := below_more (bel_alloc hw2 _) hb3
        have hsz3 : w2.heap.size < w3.heap.size := by have := hb3.size; rw [size_al] at this; omega
        obtain ⟨hc3, hf3⟩ := bcell hb3
        clear hm3 hidx
        go_wp2_with fail
        refine (HX.out _ (henv.below hw3)).mono ?_
        rintro e w4 ⟨rfl, hb4⟩
        have hw4 := below_more hw3 hb4
        have hsz4 : w2.heap.size < w4.heap.size := by have := hb4.size; omega
        obtain ⟨hc4, hf4⟩ := bcell hb4
        go_wp2_with fail
        go_ret
        exact ⟨rfl, bel_alloc hw4 _⟩
      · have hre : allR (s.extract a z) = ([⟨k, 0, z - a, n, t⟩, ⟨11, z - a, z - a, 0, []⟩], 0, 0) := by rw [allR_ext (by omega)]; exact hal hk
        have HA := Lib.hid (fun W hE => lexAll_any (s.extract a z) W hlen2 hE _ hre)
        have hkb : (k == 11) = false := beq_eq_false_iff_ne.2 hk
        clear hal hend hre hlen2 hk
        go_enter Tryd.func9, Tryd.ntmps9
        go_wp2_with fail
        refine (awake7_any _ henv).mono ?_
        rintro e w1 ⟨rfl, hb1⟩
        go_wp2_with fail
        refine (lexAll_any s _ hs (henv.below hb1) _ HR).mono ?_
        rintro e w2 ⟨v, rfl, hm2, hb2⟩
        have hml := marks_len hm2
        obtain ⟨g, cap, rfl, -, hmk⟩ := hm2.row HNE.out
        obtain ⟨c0, c1, c2, c3, c4⟩ := hmk i _ HM.out
        have hw2 := below_more hb1 hb2
        have hidx := HIDX.out
        clear hm2 hmk hb1 hb2
        go_wp2_with fail
        refine (HA.out _ (henv.below (bel_alloc hw2 _))).mono ?_
        rintro e w3 ⟨v3, rfl, hm3, hb3⟩
        obtain ⟨g3, cp3, rfl, hg3, hmk3⟩ := hm3.row (by simp)
        have hmk4 := fun (W : World) (hb : Below w3.heap.size w3 W) => hmk3.keep hb
        have HMK := Lib.hid hmk4
        rw [size_al] at hg3
        have hw3 := below_more (bel_alloc hw2 _) hb3
        have hsz3 : w2.heap.size < w3.heap.size := by have := hb3.size; rw [size_al] at this; omega
        obtain ⟨hc3, hf3⟩ := bcell hb3
        clear hm3 hidx hmk3 hmk4
        go_wp2_with fail
        refine (HX.out _ (henv.below hw3)).mono ?_
        rintro e w4 ⟨rfl, hb4⟩
        have hw4 := below_more hw3 hb4
        have hsz4 : w2.heap.size < w4.heap.size := by have := hb4.size; omega
        obtain ⟨hc4, hf4⟩ := bcell hb4
        obtain ⟨d0, d1, d2, d3, d4⟩ := (HMK.out _ hb4) 0 _ rfl
        simp only [Nat.zero_mul, Nat.zero_add] at d0 d1 d2 d3 d4
        have hza : (((z - a : Nat)) : Int) = (z : Int) - a := by omega
        rw [hza] at d2
        have hne3 : g3 ≠ w2.heap.size := by omega
        have x0 := (cell_al_lt ((w4.setCell ⟨w2.heap.size, 1, none⟩ (.int .i64 0)).setCell ⟨w2.heap.size, 2, none⟩ (.int .i64 ((z : Int) - a))) (.cells #[.int .u8 k, .int .i64 a, .int .i64 z, .int .i64 n, .string ⟨t.toArray⟩] 28) g3 0 (by rw [size_set, size_set]; exact cell_lt d0)).trans ((cell_set_ne (w := w4.setCell ⟨w2.heap.size, 1, none⟩ (.int .i64 0)) (a := ⟨w2.heap.size, 2, none⟩) (p := ⟨g3, 0, none⟩) (.int .i64 ((z : Int) - a)) hne3).trans ((cell_set_ne (w := w4) (a := ⟨w2.heap.size, 1, none⟩) (p := ⟨g3, 0, none⟩) (.int .i64 0) hne3).trans d0))
        have x1 := (cell_al_lt ((w4.setCell ⟨w2.heap.size, 1, none⟩ (.int .i64 0)).setCell ⟨w2.heap.size, 2, none⟩ (.int .i64 ((z : Int) - a))) (.cells #[.int .u8 k, .int .i64 a, .int .i64 z, .int .i64 n, .string ⟨t.toArray⟩] 28) g3 1 (by rw [size_set, size_set]; exact cell_lt d0)).trans ((cell_set_ne (w := w4.setCell ⟨w2.heap.size, 1, none⟩ (.int .i64 0)) (a := ⟨w2.heap.size, 2, none⟩) (p := ⟨g3, 1, none⟩) (.int .i64 ((z : Int) - a)) hne3).trans ((cell_set_ne (w := w4) (a := ⟨w2.heap.size, 1, none⟩) (p := ⟨g3, 1, none⟩) (.int .i64 0) hne3).trans d1))
        have x2 := (cell_al_lt ((w4.setCell ⟨w2.heap.size, 1, none⟩ (.int .i64 0)).setCell ⟨w2.heap.size, 2, none⟩ (.int .i64 ((z : Int) - a))) (.cells #[.int .u8 k, .int .i64 a, .int .i64 z, .int .i64 n, .string ⟨t.toArray⟩] 28) g3 2 (by rw [size_set, size_set]; exact cell_lt d0)).trans ((cell_set_ne (w := w4.setCell ⟨w2.heap.size, 1, none⟩ (.int .i64 0)) (a := ⟨w2.heap.size, 2, none⟩) (p := ⟨g3, 2, none⟩) (.int .i64 ((z : Int) - a)) hne3).trans ((cell_set_ne (w := w4) (a := ⟨w2.heap.size, 1, none⟩) (p := ⟨g3, 2, none⟩) (.int .i64 0) hne3).trans d2))
        have x3 := (cell_al_lt ((w4.setCell ⟨w2.heap.size, 1, none⟩ (.int .i64 0)).setCell ⟨w2.heap.size, 2, none⟩ (.int .i64 ((z : Int) - a))) (.cells #[.int .u8 k, .int .i64 a, .int .i64 z, .int .i64 n, .string ⟨t.toArray⟩] 28) g3 3 (by rw [size_set, size_set]; exact cell_lt d0)).trans ((cell_set_ne (w := w4.setCell ⟨w2.heap.size, 1, none⟩ (.int .i64 0)) (a := ⟨w2.heap.size, 2, none⟩) (p := ⟨g3, 3, none⟩) (.int .i64 ((z : Int) - a)) hne3).trans ((cell_set_ne (w := w4) (a := ⟨w2.heap.size, 1, none⟩) (p := ⟨g3, 3, none⟩) (.int .i64 0) hne3).trans d3))
        have x4 := (cell_al_lt ((w4.setCell ⟨w2.heap.size, 1, none⟩ (.int .i64 0)).setCell ⟨w2.heap.size, 2, none⟩ (.int .i64 ((z : Int) - a))) (.cells #[.int .u8 k, .int .i64 a, .int .i64 z, .int .i64 n, .string ⟨t.toArray⟩] 28) g3 4 (by rw [size_set, size_set]; exact cell_lt d0)).trans ((cell_set_ne (w := w4.setCell ⟨w2.heap.size, 1, none⟩ (.int .i64 0)) (a := ⟨w2.heap.size, 2, none⟩) (p := ⟨g3, 4, none⟩) (.int .i64 ((z : Int) - a)) hne3).trans ((cell_set_ne (w := w4) (a := ⟨w2.heap.size, 1, none⟩) (p := ⟨g3, 4, none⟩) (.int .i64 0) hne3).trans d4))
        clear hza d0 d1 d2 d3 d4 HMK
        go_wp2_with fail
        go_quiet (fail)
        go_wp2_with fail
        go_ret
        exact ⟨rfl, bel_drewN (bel_alloc (bel_set (bel_set hw4 (p := ⟨w2.heap.size, 1, none⟩) hw2.size _) (p := ⟨w2.heap.size, 2, none⟩) hw2.size _) _) _⟩
end Go.Proofs.YtkflnbmbkilicaaDoor
