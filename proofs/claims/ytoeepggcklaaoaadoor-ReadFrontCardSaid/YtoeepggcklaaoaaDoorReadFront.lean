/-
  The walk of the law ReadFront.
-/
import Derived.Test.YtoeepggcklaaoaaDoorReadAwake
import Derived.IntWalk
namespace Go.Proofs.YtoeepggcklaaoaaDoor
open Go.RowKit

/-- A byte that shuts a list or an object. -/
def isShut (c : UInt8) : Bool := c == 93 || c == 125
theorem shut_no {c : UInt8} (h : isShut c = false) : ((c.toNat : Int) != 93) = true ∧ ((c.toNat : Int) != 125) = true := by
  unfold isShut at h
  rw [Bool.or_eq_false_iff] at h
  obtain ⟨h1, h2⟩ := h
  have e1 : c ≠ 93 := by simpa using h1
  have e2 : c ≠ 125 := by simpa using h2
  have n1 : c.toNat ≠ 93 := fun e => e1 (UInt8.toNat_inj.1 e)
  have n2 : c.toNat ≠ 125 := fun e => e2 (UInt8.toNat_inj.1 e)
  exact ⟨by rw [bne_iff_ne]; omega, by rw [bne_iff_ne]; omega⟩
theorem shut_yes {c : UInt8} (h : isShut c = true) : ((c.toNat : Int) != 93) = false ∨ (((c.toNat : Int) != 93) = true ∧ ((c.toNat : Int) != 125) = false) := by
  unfold isShut at h
  rw [Bool.or_eq_true] at h
  rcases h with h | h
  · left
    have e1 : c = 93 := by simpa using h
    subst e1; rfl
  · right
    have e1 : c = 125 := by simpa using h
    subst e1; exact ⟨rfl, rfl⟩
theorem front_bytes (s : ByteArray) (k : Nat) : (s.extract 0 k).data.toList = s.data.toList.take k := by
  rw [← toList_data, ext_list]
  simp
theorem cut_at (a : Int) (n : Nat) : ∃ K : Nat, (IntKind.u64.wrap a).tmod ((n : Int) + 1) = (K : Int) ∧ K ≤ n := by
  have h0 : 0 ≤ IntKind.u64.wrap a := by
    simp only [IntKind.wrap, IntKind.bits, IntKind.signed]
    first | exact Int.emod_nonneg _ (by decide) | (simp; exact Int.emod_nonneg _ (by decide))
  have h1 : 0 ≤ (IntKind.u64.wrap a).tmod ((n : Int) + 1) := Int.tmod_nonneg _ h0
  have h2 : (IntKind.u64.wrap a).tmod ((n : Int) + 1) < (n : Int) + 1 := Int.tmod_lt_of_pos _ (by omega)
  exact ⟨((IntKind.u64.wrap a).tmod ((n : Int) + 1)).toNat, by omega, by omega⟩
set_option maxRecDepth 100000 in
set_option maxHeartbeats 8000000 in
theorem readFront_walk (s : ByteArray) (a : Int) (w : World) (w0 : s.size ≤ maxLen) (w1 : (Lit.int .i64 a).wf = true) (henv : NumEnv w) :
    Calls Tryd.prog 4 #[.string s, .int .i64 a] w fun e w' => e = .returned (.bool true) ∧ Below w.heap.size w w' := by
  unfold maxLen at w0
  have ha : -9223372036854775808 ≤ a ∧ a ≤ 9223372036854775807 := by simp [Lit.wf, IntKind.min, IntKind.max, IntKind.bits, IntKind.signed] at w1; omega
  clear w1
  by_cases hl : 20000 < s.size
  · have hd : decide (20000 < (s.size : Int)) = true := by simp; omega
    go_enter Tryd.func4, Tryd.ntmps4
    go_wp2_with fail
    refine (awake9_any _ henv).mono ?_
    rintro e w3 ⟨rfl, hb3⟩
    go_wp2_with fail
    go_ret
    exact ⟨rfl, hb3⟩
  have hd : decide (20000 < (s.size : Int)) = false := by simp; omega
  obtain ⟨R1, hR1⟩ : ∃ R1, readV s.data.toList = R1 := ⟨_, rfl⟩
  have HR := Lib.hid (fun W hE => read_any s W (by omega) hE R1 (Lib.hid hR1))
  cases R1 with
  | bad p er =>
    clear hR1
    go_enter Tryd.func4, Tryd.ntmps4
    go_wp2_with fail
    refine (awake9_any _ henv).mono ?_
    rintro e w3 ⟨rfl, hb3⟩
    go_wp2_with fail
    refine (HR.out _ (henv.below hb3)).mono ?_
    rintro e w4 ⟨hb4, rfl, hne⟩
    have heb : (er != 0) = true := by rw [bne_iff_ne]; exact hne
    simp only [zeroV]
    go_wp2_with fail
    go_ret
    exact ⟨rfl, bel_alloc (below_more hb3 hb4) _⟩
  | ok V ms c =>
    by_cases hk : V.k = 4 ∨ V.k = 5
    · have hsh := fun (n k : Nat) (hn : n ≤ s.size) (h1 : n = 0 ∨ ∃ b, s.data.toList[n - 1]? = some b ∧ (b = 93 ∨ b = 125)) (h2 : ∀ i b, n ≤ i → s.data.toList[i]? = some b → b ≠ 93 ∧ b ≠ 125) => front_plain (k := k) hR1 hk (by rw [size_len]; exact hn) h1 h2
      have HSH := Lib.hid hsh
      clear hsh hR1
      have hkb : (V.k != 4) = false ∨ ((V.k != 4) = true ∧ (V.k != 5) = false) := by
        rcases hk with e | e
        · left; rw [e]; rfl
        · right; rw [e]; exact ⟨rfl, rfl⟩
      clear hk
      rcases hkb with hkb | ⟨hkb, hkb2⟩
      all_goals
        go_enter Tryd.func4, Tryd.ntmps4
        go_wp2_with fail
        refine (awake9_any _ henv).mono ?_
        rintro e w3 ⟨rfl, hb3⟩
        go_wp2_with fail
        refine (HR.out _ (henv.below hb3)).mono ?_
        rintro e w4 ⟨hb4, ⟨xk, xn, xt, xa, xl, xc, xb, xm, xe⟩, rfl, hnew⟩
        have hxk : xk = V.k := by
          obtain ⟨vn, vi, e, -⟩ := valAt_iff.1 hnew
          simp only [VC.val, Value.agg.injEq, Array.mk.injEq, List.cons.injEq, Value.int.injEq, true_and] at e
          exact e.1
        subst hxk
        simp only [VC.val]
        have hb5 := bel_alloc (below_more hb3 hb4) (.cells #[.int .u8 V.k, .int .i64 xn, .string xt, .slice xa xl xc, .slice xb xm xe] 26)
        clear hnew
        go_wp2_with fail
        generalize w4.alloc (.cells #[.int .u8 V.k, .int .i64 xn, .string xt, .slice xa xl xc, .slice xb xm xe] 26) = w5 at hb5 ⊢
        clear hb3 hb4
        go_loopg [8] s.size (fun gk u wr => ∃ n : Nat, n = gk ∧ u = .int .i64 n ∧ n ≤ s.size ∧ wr = w5 ∧ Hid (∀ i b, n ≤ i → s.data.toList[i]? = some b → b ≠ 93 ∧ b ≠ 125))
        case atStart => exact ⟨s.size, rfl, rfl, Nat.le_refl _, rfl, fun i b hi hb => by rw [List.getElem?_eq_none (by rw [size_len]; exact hi)] at hb; cases hb⟩
        case round =>
          obtain ⟨n, rfl, rfl, hn, rfl, HL⟩ := hrel
          have hpos : 0 < n := by
            rcases Nat.eq_zero_or_pos n with e | e
            · exact (HSH.out n 0 hn (Or.inl e) HL.out).1
            · exact e
          obtain ⟨n', rfl⟩ : ∃ n', n = n' + 1 := ⟨n - 1, by omega⟩
          clear hpos
          have hlt : n' < s.size := by omega
          have i0 : (0 : Int) ≤ (n' : Int) := by omega
          have i1 : (n' : Int) < (s.size : Int) := by omega
          have hget : s.data.toList[n']? = some s[n'] := Lib.data_getElem? s n' hlt
          cases hsh : isShut s[n'] with
          | false =>
            obtain ⟨e1, e2⟩ := shut_no hsh
            have HL2 : Hid (∀ i b, n' ≤ i → s.data.toList[i]? = some b → b ≠ 93 ∧ b ≠ 125) := fun i b hi hb => by
              rcases Nat.lt_or_ge n' i with h | h
              · exact HL.out i b h hb
              · have : i = n' := by omega
                subst this
                rw [hget] at hb
                cases hb
                constructor <;> (rintro h; rw [h] at hsh; simp [isShut] at hsh)
            clear hsh hget HL
            go_wp2_with fail
            go_roundg n'
            case rel => exact ⟨n', rfl, by go_num, by omega, rfl, HL2⟩
            case measure => omega
          | true =>
            have hb : s[n'] = 93 ∨ s[n'] = 125 := by simpa [isShut] using hsh
            have HF := Lib.hid (fun k => (HSH.out (n' + 1) k hn (Or.inr ⟨s[n'], hget, hb⟩) HL.out).2)
            have hsy := shut_yes hsh
            obtain ⟨K, hK, hKn⟩ := cut_at a n'
            obtain ⟨p, er, hRK, hpn⟩ := HF.out K (by omega)
            have HR2 := Lib.hid (fun W hE => read_any (s.extract 0 K) W (by rw [ByteArray.size_extract]; omega) hE _ (show Hid _ from (front_bytes s K).symm ▸ hRK))
            have hp2 : (p : Int) < (n' : Int) + 1 := by omega
            have hk1 : (K : Int) ≤ (s.size : Int) := by omega
            have hk0 : (0 : Int) ≤ (K : Int) := by omega
            clear hsh hget HL hb HF hRK
            rcases hsy with e1 | ⟨e1, e2⟩
            all_goals
              go_wp2_with fail
              refine (HR2.out _ (henv.below hb5)).mono ?_
              rintro e w6 ⟨hb6, rfl, hne⟩
              have heb : (er != 0) = true := by rw [bne_iff_ne]; exact hne
              simp only [zeroV]
              go_wp2_with fail
              go_ret
              exact ⟨rfl, bel_alloc (below_more hb5 hb6) _⟩
    · have hkb : (V.k != 4) = true ∧ (V.k != 5) = true := ⟨by rw [bne_iff_ne]; exact fun e => hk (Or.inl e), by rw [bne_iff_ne]; exact fun e => hk (Or.inr e)⟩
      obtain ⟨hkb, hkb2⟩ := hkb
      clear hk hR1
      go_enter Tryd.func4, Tryd.ntmps4
      go_wp2_with fail
      refine (awake9_any _ henv).mono ?_
      rintro e w3 ⟨rfl, hb3⟩
      go_wp2_with fail
      refine (HR.out _ (henv.below hb3)).mono ?_
      rintro e w4 ⟨hb4, ⟨xk, xn, xt, xa, xl, xc, xb, xm, xe⟩, rfl, hnew⟩
      have hxk : xk = V.k := by
        obtain ⟨vn, vi, e, -⟩ := valAt_iff.1 hnew
        simp only [VC.val, Value.agg.injEq, Array.mk.injEq, List.cons.injEq, Value.int.injEq, true_and] at e
        exact e.1
      subst hxk
      simp only [VC.val]
      clear hnew
      go_wp2_with fail
      go_ret
      exact ⟨rfl, bel_alloc (below_more hb3 hb4) _⟩
end Go.Proofs.YtoeepggcklaaoaaDoor
