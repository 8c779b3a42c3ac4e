/-
  The walk of the law LexParts.
-/
import Derived.Test.YtkflnbmbkilicaaDoorLexAlone
import Derived.IntWalk
import Derived.Laws.StructEq
namespace Go.Proofs.YtkflnbmbkilicaaDoor
open Go.RowKit

theorem allR_in' {s : ByteArray} (h : s.size ≤ 65536) : allR s = allP s.data.toList 0 := by unfold allR; rw [if_neg (by omega)]
/-- The marks of two texts with a blank between. -/
theorem parts_all (s t : List UInt8) : ((allP s 0).2.2 ≠ 0 → (allP s 0).2.2 ≠ 4 → (allP (s ++ 32 :: t) 0).2.2 = (allP s 0).2.2) ∧
    ((allP s 0).2.2 = 0 → (allP t 0).2.2 ≠ 0 → allP (s ++ 32 :: t) 0 = ([], s.length + 1 + (allP t 0).2.1, (allP t 0).2.2)) ∧
    ((allP s 0).2.2 = 0 → (allP t 0).2.2 = 0 → allP (s ++ 32 :: t) 0 = (inner (allP s 0).1 ++ (allP t 0).1.map (·.far (s.length + 1)), 0, 0)) := by
  have hp := all_parts (32 :: t) t 32 rfl (by decide) s.length s 0 (Nat.le_refl _)
  have hsh := all_shift (s.length + 1) t.length t 0 (Nat.le_refl _)
  rw [show 0 + (s.length + 1) = 0 + s.length + 1 by omega] at hsh
  refine ⟨fun h h4 => by rw [(hp h4).1 h], fun h h2 => ?_, fun h h2 => ?_⟩
  · rw [(hp (by omega)).2 h, hsh]
    unfold consM shiftR
    rw [if_pos (by simpa using h2), if_neg h2]
    simp only []
    rw [Nat.add_comm]
  · rw [(hp (by omega)).2 h, hsh]
    unfold consM shiftR
    rw [if_neg (by simpa using h2)]
theorem MkRow.al {w : World} {g : Nat} {ms : List Mk} (h : MkRow w g ms) (o : Obj) : MkRow (w.alloc o) g ms := h.keep ((Below.refl _ _).alloc (Nat.le_refl _) o)
theorem MkRow.set {w : World} {g : Nat} {ms : List Mk} (h : MkRow w g ms) (p : Addr) (v : Value) (hne : g ≠ p.block) : MkRow (w.setCell p v) g ms := fun i m hm => by
  obtain ⟨h0, h1, h2, h3, h4⟩ := h i m hm
  exact ⟨(cell_set_ne v hne).trans h0, (cell_set_ne v hne).trans h1, (cell_set_ne v hne).trans h2, (cell_set_ne v hne).trans h3, (cell_set_ne v hne).trans h4⟩
theorem MkRow.lt {w : World} {g : Nat} {ms : List Mk} (h : MkRow w g ms) (hne : ms ≠ []) : g < w.heap.size := by
  obtain ⟨m, r, rfl⟩ := List.exists_cons_of_ne_nil hne
  exact cell_lt (h 0 m rfl).1
set_option maxRecDepth 100000 in
set_option maxHeartbeats 8000000 in
theorem lexParts_walk (s t : ByteArray) (w : World) (w0 : s.size ≤ maxLen) (w1 : t.size ≤ maxLen) (henv : NumEnv w) :
    Calls Tryd.prog 8 #[.string s, .string t] w fun e w' => e = .returned (.bool true) ∧ Below w.heap.size w w' := by
  unfold maxLen at w0 w1
  by_cases hl : 1500 < s.size
  · have hd : decide (1500 < (s.size : Int)) = true := by simp; omega
    go_enter Tryd.func8, Tryd.ntmps8
    go_wp2_with fail
    refine (awake7_any _ henv).mono ?_
    rintro e w3 ⟨rfl, hb3⟩
    go_wp2_with fail
    go_ret
    exact ⟨rfl, hb3⟩
  by_cases hl2 : 1500 < t.size
  · have hd : decide (1500 < (s.size : Int)) = false := by simp; omega
    have hd2 : decide (1500 < (t.size : Int)) = true := by simp; omega
    go_enter Tryd.func8, Tryd.ntmps8
    go_wp2_with fail
    refine (awake7_any _ henv).mono ?_
    rintro e w3 ⟨rfl, hb3⟩
    go_wp2_with fail
    go_ret
    exact ⟨rfl, hb3⟩
  have hd : decide (1500 < (s.size : Int)) = false := by simp; omega
  have hd2 : decide (1500 < (t.size : Int)) = false := by simp; omega
  obtain ⟨p1, p2, p3⟩ := parts_all s.data.toList t.data.toList
  obtain ⟨a, pa, e, hA⟩ : ∃ a pa e, allR s = (a, pa, e) := ⟨_, _, _, rfl⟩
  obtain ⟨b, pb, f, hB⟩ : ∃ b pb f, allR t = (b, pb, f) := ⟨_, _, _, rfl⟩
  obtain ⟨c, pc, g, hC⟩ : ∃ c pc g, allR (s ++ (⟨#[32]⟩ : ByteArray) ++ t) = (c, pc, g) := ⟨_, _, _, rfl⟩
  have hA' : allP s.data.toList 0 = (a, pa, e) := by rw [← allR_in' (by omega)]; exact hA
  have hB' : allP t.data.toList 0 = (b, pb, f) := by rw [← allR_in' (by omega)]; exact hB
  have hsz3 : (s ++ (⟨#[32]⟩ : ByteArray) ++ t).size = s.size + 1 + t.size := by simp [ByteArray.size_append]; rfl
  have hC' : allP (s.data.toList ++ 32 :: t.data.toList) 0 = (c, pc, g) := by
    rw [← hC, allR_in' (by rw [hsz3]; omega)]
    congr 1
    simp
  have hneA : e = 0 → a ≠ [] := fun he => by
    have := (all_ne _ s.data.toList 0 (Nat.le_refl _) (by rw [hA']; exact he)).2
    rwa [hA'] at this
  have hneB : f = 0 → b ≠ [] := fun he => by
    have := (all_ne _ t.data.toList 0 (Nat.le_refl _) (by rw [hB']; exact he)).2
    rwa [hB'] at this
  have hpb : f ≠ 0 → pb ≤ t.size := fun he => by
    have := ((all_norm _ t.data.toList 0 (Nat.le_refl _)).2 (by rw [hB']; exact he)).2.2
    rw [hB', size_len] at this
    simpa using this
  have hbm : f = 0 → ∀ (j : Nat) (m : Mk), b[j]? = some m → m.a ≤ t.size ∧ m.z ≤ t.size := fun he j m hm => by
    have := all_row t.data.toList _ t.data.toList 0 (Nat.le_refl _) (Nat.zero_le _) rfl (by rw [hB']; exact he)
    rw [hB'] at this
    obtain ⟨q1, q2, -⟩ := this.get hm
    rw [size_len] at q2
    omega
  have HBM' := Lib.hid hbm
  clear hbm
  rw [hA', hB', hC', size_len] at p2 p3
  rw [hA', hC'] at p1
  simp only [Prod.mk.injEq] at p1 p2 p3
  have hs : s.size ≤ 281474976710656 := by omega
  have ht : t.size ≤ 281474976710656 := by omega
  have HA := Lib.hid (fun W hE => lexAll_any s W hs hE _ hA)
  have HB := Lib.hid (fun W hE => lexAll_any t W ht hE _ hB)
  have HC := Lib.hid (fun W hE => lexAll_any (s ++ (⟨#[32]⟩ : ByteArray) ++ t) W (by rw [hsz3]; omega) hE _ hC)
  clear hA hB hC hA' hB' hC' hsz3
  go_enter Tryd.func8, Tryd.ntmps8
  go_wp2_with fail
  refine (awake7_any _ henv).mono ?_
  rintro e0 w3 ⟨rfl, hb3⟩
  go_wp2_with fail
  refine (HA.out _ (henv.below hb3)).mono ?_
  rintro e1 w4 ⟨va, rfl, hma, hb4⟩
  have hw4 := below_more hb3 hb4
  clear hb3 hb4
  go_wp2_with fail
  refine (HB.out _ (henv.below hw4)).mono ?_
  rintro e2 w5 ⟨vb, rfl, hmb, hb5⟩
  have hw5 := below_more hw4 hb5
  have hma := hma.keep hb5
  clear hw4 hb5
  go_wp2_with fail
  refine (HC.out _ (henv.below hw5)).mono ?_
  rintro e3 w6 ⟨vc, rfl, hmc, hb6⟩
  have hw6 := below_more hw5 hb6
  have hma := hma.keep hb6
  have hmb := hmb.keep hb6
  clear hw5 hb6 HA HB HC
  by_cases he : e ≠ 0
  · obtain ⟨a4, c4, rfl⟩ := hma.slice
    obtain ⟨a5, c5, rfl⟩ := hmb.slice
    obtain ⟨a6, c6, rfl⟩ := hmc.slice
    have heb : (e != 0) = true := by rw [bne_iff_ne]; exact he
    by_cases h4 : e = 4
    · subst h4
      clear p1 p2 p3 hma hmb hmc
      go_wp2_with fail
      go_ret
      exact ⟨rfl, hw6⟩
    · have hge := p1 he h4
      have h4b : (e == 4) = false := beq_eq_false_iff_ne.2 h4
      by_cases h6 : e = 12
      · subst h6
        clear p1 p2 p3 hma hmb hmc
        go_wp2_with fail
        go_ret
        exact ⟨rfl, hw6⟩
      · have h6b : (e == 12) = false := beq_eq_false_iff_ne.2 h6
        subst hge
        clear p1 p2 p3 hma hmb hmc
        go_wp2_with fail
        go_ret
        exact ⟨rfl, hw6⟩
  · have he0 : e = 0 := by simpa using he
    subst he0
    have hneA := hneA rfl
    clear p1 he
    by_cases hf : f ≠ 0
    · obtain ⟨hc, hpc, hg⟩ := p2 rfl hf
      have hpb2 := hpb hf
      have hfb : (f != 0) = true := by rw [bne_iff_ne]; exact hf
      have hq : ((pc : Int) == (s.size : Int) + 1 + (pb : Int)) = true := by rw [beq_iff_eq, hpc]; omega
      subst hg
      subst hc
      obtain ⟨a4, c4, rfl⟩ := hma.slice
      obtain ⟨a5, c5, rfl⟩ := hmb.slice
      obtain ⟨a6, c6, rfl⟩ := hmc.slice
      clear p2 p3 hma hmb hmc hneB hpb hf hpc
      go_wp2_with fail
      go_ret
      exact ⟨rfl, hw6⟩
    · have hf0 : f = 0 := by simpa using hf
      subst hf0
      have hneB := hneB rfl
      have HBM := Lib.hid (HBM'.out rfl)
      clear HBM'
      obtain ⟨hc, hpc, hg⟩ := p3 rfl rfl
      subst hg
      have hla := marks_len hma
      have hlb := marks_len hmb
      have hlc := marks_len hmc
      have hposA : 0 < a.length := List.length_pos_iff.2 hneA
      have hlenI : (inner a).length = a.length - 1 := by unfold inner; rw [List.length_take]; omega
      have hlen : c.length = a.length - 1 + b.length := by rw [hc, List.length_append, List.length_map, hlenI]
      have hneC : c ≠ [] := fun h => by
        have hposB : 0 < b.length := List.length_pos_iff.2 hneB
        rw [h] at hlen
        simp at hlen
        omega
      have hgA : ∀ i, i < a.length - 1 → c[i]? = a[i]? := fun i hi => by
        rw [hc, List.getElem?_append_left (by omega)]
        unfold inner
        rw [List.getElem?_take_of_lt hi]
      have hgB : ∀ j m, b[j]? = some m → c[a.length - 1 + j]? = some (m.far (s.size + 1)) := fun j m hm => by
        rw [hc, List.getElem?_append_right (by omega), hlenI, Nat.add_sub_cancel_left, List.getElem?_map, hm]
        rfl
      obtain ⟨ga, ca, rfl, -, hka⟩ := hma.row hneA
      obtain ⟨gb, cb, rfl, -, hkb⟩ := hmb.row hneB
      obtain ⟨gc, cc, rfl, -, hkc⟩ := hmc.row hneC
      have hltA := hka.lt hneA
      have hltB := hkb.lt hneB
      have hltC := hkc.lt hneC
      have HKA := Lib.hid hka
      have HKB := Lib.hid hkb
      have HKC := Lib.hid hkc
      have HGA := Lib.hid hgA
      have HGB := Lib.hid hgB
      have hq : ((c.length : Int) != (a.length : Int) - 1 + (b.length : Int)) = false := by rw [bne_eq_false_iff_eq]; omega
      clear p2 p3 hpb hma hmb hmc hka hkb hkc hgA hgB hf hc hlenI hpc hneA hneB hneC
      go_wp2_with fail
      go_loopw [14] (fun i wr => ∃ k : Nat, k ≤ c.length ∧ i = .int .i64 k ∧ Below w6.heap.size w6 wr) (fun i _ => c.length - (intOf i).toNat)
      case atStart => exact ⟨0, Nat.zero_le _, rfl, Below.refl _ _⟩
      case round =>
        obtain ⟨k, hk, rfl, hBr⟩ := hrel
        by_cases hlt : k < c.length
        · by_cases h1 : k < a.length - 1
          · have hd1 : decide ((k : Int) < (a.length : Int) - 1) = true := by simp; omega
            obtain ⟨m, hm⟩ : ∃ m, a[k]? = some m := ⟨_, List.getElem?_eq_getElem (by omega)⟩
            obtain ⟨c0, c1, c2, c3, c4⟩ := HKA.out.keep hBr k m hm
            obtain ⟨d0, d1, d2, d3, d4⟩ := HKC.out.keep hBr k m (by rw [HGA.out k h1, hm])
            clear hm
            go_wp2_with fail
            go_quiet (fail)
            go_wp2_with fail
            refine ⟨⟨k + 1, by omega, by go_num, bel_drewN hBr _⟩, by simp [intOf]; omega⟩
          · have hd1 : decide ((k : Int) < (a.length : Int) - 1) = false := by simp; omega
            obtain ⟨j, hj⟩ : ∃ j, k = a.length - 1 + j := ⟨k - (a.length - 1), by omega⟩
            obtain ⟨m, hm⟩ : ∃ m, b[j]? = some m := ⟨_, List.getElem?_eq_getElem (by omega)⟩
            obtain ⟨c0, c1, c2, c3, c4⟩ := HKB.out.keep hBr j m hm
            have hx : (k : Int) - (a.length : Int) + 1 = (j : Int) := by omega
            have hjb : (j : Int) < (b.length : Int) := by omega
            have hcm : c[k]? = some (m.far (s.size + 1)) := by rw [hj]; exact HGB.out j m hm
            have hltr : gc < wr.heap.size := by have := hBr.size; omega
            have hrC := (HKC.out.keep hBr).al (.cells #[.int .u8 m.k, .int .i64 ((m.a : Int) + (s.size : Int) + 1), .int .i64 ((m.z : Int) + (s.size : Int) + 1), .int .i64 m.n, .string ⟨m.t.toArray⟩] 28)
            obtain ⟨d0, d1, d2, d3, d4⟩ := hrC k _ hcm
            have hza : ((m.a + (s.size + 1) : Nat) : Int) = (m.a : Int) + (s.size : Int) + 1 := by omega
            have hzz : ((m.z + (s.size + 1) : Nat) : Int) = (m.z : Int) + (s.size : Int) + 1 := by omega
            simp only [Mk.far, hza, hzz] at d0 d1 d2 d3 d4
            have hbm := HBM.out j m hm
            obtain ⟨mk, ma, mz, mn, mt⟩ := m
            simp only [] at c0 c1 c2 c3 c4 d0 d1 d2 d3 d4 hbm
            obtain ⟨hbm1, hbm2⟩ := hbm
            clear hm hcm hj hza hzz hrC
            go_wp2_with fail
            go_quiet (fail)
            go_wp2_with fail
            refine ⟨⟨k + 1, by omega, by go_num, bel_drewN (bel_alloc hBr _) _⟩, by simp [intOf]; omega⟩
        · have hke : k = c.length := by omega
          subst hke
          go_wp2_with fail
          go_ret
          exact ⟨rfl, below_more hw6 hBr⟩
end Go.Proofs.YtkflnbmbkilicaaDoor
