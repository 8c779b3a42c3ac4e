/-
  The walk of the law ReadMore.
-/
import Derived.Test.YtoeepggcklaaoaaDoorReadAwake
import Derived.IntWalk
namespace Go.Proofs.YtoeepggcklaaoaaDoor
open Go.RowKit

def emptyV : JV := .mk 0 0 ⟨#[]⟩ [] []
theorem valAt_zero (w : World) : ValAt w emptyV zeroV := valAt_leaf w 0 0 ⟨#[]⟩ (by decide) (by decide) (by decide) (by decide) (by decide)
theorem more_cat (s t : ByteArray) : (s ++ ⟨#[32]⟩ ++ t).data.toList = s.data.toList ++ 32 :: t.data.toList := by
  show ((s ++ (⟨#[32]⟩ : ByteArray)) ++ t).data.toList = _
  rw [ByteArray.data_append, ByteArray.data_append]
  simp
theorem cat_size (s t : ByteArray) : (s ++ ⟨#[32]⟩ ++ t).size = s.size + 1 + t.size := by
  rw [ByteArray.size_append, ByteArray.size_append]
  rfl
set_option maxRecDepth 100000 in
set_option maxHeartbeats 8000000 in
theorem readMore_walk (s t : ByteArray) (w : World) (w0 : s.size ≤ maxLen) (w1 : t.size ≤ maxLen) (henv : NumEnv w) :
    Calls Tryd.prog 3 #[.string s, .string t] w fun e w' => e = .returned (.bool true) ∧ Below w.heap.size w w' := by
  unfold maxLen at w0 w1
  by_cases hl : 10000 < s.size
  · have hd : decide (10000 < (s.size : Int)) = true := by simp; omega
    go_enter Tryd.func3, Tryd.ntmps3
    go_wp2_with fail
    refine (awake9_any _ henv).mono ?_
    rintro e w3 ⟨rfl, hb3⟩
    go_wp2_with fail
    go_ret
    exact ⟨rfl, hb3⟩
  by_cases hl2 : 10000 < t.size
  · have hd : decide (10000 < (s.size : Int)) = false := by simp; omega
    have hd2 : decide (10000 < (t.size : Int)) = true := by simp; omega
    go_enter Tryd.func3, Tryd.ntmps3
    go_wp2_with fail
    refine (awake9_any _ henv).mono ?_
    rintro e w3 ⟨rfl, hb3⟩
    go_wp2_with fail
    go_ret
    exact ⟨rfl, hb3⟩
  have hd : decide (10000 < (s.size : Int)) = false := by simp; omega
  have hd2 : decide (10000 < (t.size : Int)) = false := by simp; omega
  obtain ⟨R1, hR1⟩ : ∃ R1, readV s.data.toList = R1 := ⟨_, rfl⟩
  obtain ⟨m, f, hm⟩ : ∃ m f, nextM t.data.toList 0 = (m, f) := ⟨_, _, rfl⟩
  have HR := Lib.hid (fun W hE => read_any s W (by omega) hE R1 (Lib.hid hR1))
  have HN := Lib.hid (fun W hE => lexNext_in t 0 W (by omega) (Nat.zero_le _) hE m.k m.a m.z m.n ⟨m.t.toArray⟩ f (show resV _ = _ by rw [hm]; rfl))
  cases R1 with
  | bad p er =>
    clear hm hR1
    go_enter Tryd.func3, Tryd.ntmps3
    go_wp2_with fail
    refine (awake9_any _ henv).mono ?_
    rintro e w3 ⟨rfl, hb3⟩
    go_wp2_with fail
    refine (HR.out _ (henv.below hb3)).mono ?_
    rintro e w4 ⟨hb4, rfl, hne⟩
    have heb : (er != 0) = true := by rw [bne_iff_ne]; exact hne
    simp only [zeroV]
    go_wp2_with fail
    have hb5 := bel_alloc (below_more hb3 hb4) (.cells #[.int .u8 0, .int .i64 0, .string ⟨#[]⟩, .slice none 0 0, .slice none 0 0] 26)
    refine (HN.out _ (henv.below hb5)).mono ?_
    rintro e w6 ⟨rfl, hb6⟩
    go_wp2_with fail
    go_ret
    exact ⟨rfl, bel_alloc (below_more hb5 hb6) _⟩
  | ok V ms c =>
    have hmore : f = 0 → m.k ≠ 11 → readV (s ++ ⟨#[32]⟩ ++ t).data.toList = .bad (s.size + 1 + m.a) 11 := fun hf hk => by
      subst hf
      rw [more_cat, ← size_len]
      exact more_plain hR1 hm hk (by rw [size_len, size_len]; omega)
    have hma : f = 0 → m.a ≤ t.size := fun hf => by
      subst hf
      have := nextM_ok (Nat.zero_le _) hm
      rw [size_len] at this
      omega
    by_cases hf : f = 0
    · by_cases hk : m.k = 11
      · have hkb : (m.k == 11) = true := by rw [hk]; rfl
        subst hf
        clear hm hR1 hmore hma hk
        go_enter Tryd.func3, Tryd.ntmps3
        go_wp2_with fail
        refine (awake9_any _ henv).mono ?_
        rintro e w3 ⟨rfl, hb3⟩
        go_wp2_with fail
        refine (HR.out _ (henv.below hb3)).mono ?_
        rintro e w4 ⟨hb4, ⟨xk, xn, xt, xa, xl, xc, xb, xm, xe⟩, rfl, -⟩
        simp only [VC.val]
        go_wp2_with fail
        have hb5 := bel_alloc (below_more hb3 hb4) (.cells #[.int .u8 xk, .int .i64 xn, .string xt, .slice xa xl xc, .slice xb xm xe] 26)
        refine (HN.out _ (henv.below hb5)).mono ?_
        rintro e w6 ⟨rfl, hb6⟩
        go_wp2_with fail
        go_ret
        exact ⟨rfl, bel_alloc (below_more hb5 hb6) _⟩
      · have hkb : (m.k == 11) = false := beq_eq_false_iff_ne.2 hk
        have HR2 := Lib.hid (fun W hE => read_any (s ++ ⟨#[32]⟩ ++ t) W (by rw [cat_size]; omega) hE _ (Lib.hid (hmore hf hk)))
        have hma' := hma hf
        subst hf
        have hw2 : IntKind.i64.wrap ((s.size : Int) + 1) = (s.size : Int) + 1 := IntWalk.i64_in _ (by omega)
        clear hm hR1 hmore hma hk
        go_enter Tryd.func3, Tryd.ntmps3
        go_wp2_with fail
        refine (awake9_any _ henv).mono ?_
        rintro e w3 ⟨rfl, hb3⟩
        go_wp2_with fail
        refine (HR.out _ (henv.below hb3)).mono ?_
        rintro e w4 ⟨hb4, ⟨xk, xn, xt, xa, xl, xc, xb, xm, xe⟩, rfl, -⟩
        simp only [VC.val]
        go_wp2_with fail
        have hb5 := bel_alloc (below_more hb3 hb4) (.cells #[.int .u8 xk, .int .i64 xn, .string xt, .slice xa xl xc, .slice xb xm xe] 26)
        refine (HN.out _ (henv.below hb5)).mono ?_
        rintro e w6 ⟨rfl, hb6⟩
        have hb7 := bel_alloc (below_more hb5 hb6) (.cells #[.int .u8 m.k, .int .i64 m.a, .int .i64 m.z, .int .i64 m.n, .string ⟨m.t.toArray⟩] 31)
        have hM7 := blkAt_new w6 #[.int .u8 m.k, .int .i64 m.a, .int .i64 m.z, .int .i64 m.n, .string ⟨m.t.toArray⟩] 31
        have HM7 := Lib.hid hM7
        clear hM7
        go_wp2_with fail
        refine (HR2.out _ (henv.below hb7)).mono ?_
        rintro e w8 ⟨hb8, rfl, -⟩
        obtain ⟨-, q1, -, -, -, qf⟩ := blk5 ((BlkAt.keep HM7.out hb8).alloc (.cells #[.int .u8 0, .int .i64 0, .string ⟨#[]⟩, .slice none 0 0, .slice none 0 0] 26))
        simp only [zeroV]
        go_wp2_with fail
        refine (Same_any emptyV emptyV _ _ _ (valAt_zero _) (valAt_zero _)).mono ?_
        rintro e w9 ⟨rfl, hb9⟩
        rw [sameV_self]
        go_wp2_with fail
        go_ret
        exact ⟨rfl, below_more (bel_alloc (below_more hb7 hb8) _) hb9⟩
    · have hfb : (f != 0) = true := by rw [bne_iff_ne]; exact hf
      clear hm hR1 hmore hma
      go_enter Tryd.func3, Tryd.ntmps3
      go_wp2_with fail
      refine (awake9_any _ henv).mono ?_
      rintro e w3 ⟨rfl, hb3⟩
      go_wp2_with fail
      refine (HR.out _ (henv.below hb3)).mono ?_
      rintro e w4 ⟨hb4, ⟨xk, xn, xt, xa, xl, xc, xb, xm, xe⟩, rfl, -⟩
      simp only [VC.val]
      go_wp2_with fail
      have hb5 := bel_alloc (below_more hb3 hb4) (.cells #[.int .u8 xk, .int .i64 xn, .string xt, .slice xa xl xc, .slice xb xm xe] 26)
      refine (HN.out _ (henv.below hb5)).mono ?_
      rintro e w6 ⟨rfl, hb6⟩
      go_wp2_with fail
      go_ret
      exact ⟨rfl, bel_alloc (below_more hb5 hb6) _⟩
end Go.Proofs.YtoeepggcklaaoaaDoor
