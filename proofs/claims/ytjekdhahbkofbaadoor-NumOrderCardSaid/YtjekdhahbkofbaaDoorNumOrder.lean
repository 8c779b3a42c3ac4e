/-
  The order of numbers and the order of their texts; the walk of the law NumOrder.
-/
import Derived.Test.YtjekdhahbkofbaaDoorNumRefRead
import Derived.OpenShut
namespace Go.Proofs.YtjekdhahbkofbaaDoor
open Go.RowKit

theorem dv_mono_acc : ∀ (x y : List UInt8) (a b : Nat), x.length = y.length → x.all Nm.dg = true → a < b → Nm.dv a x < Nm.dv b y
  | [], [], a, b, _, _, h => h
  | c :: x, d :: y, a, b, hl, hx, h => by
    simp only [List.all_cons, Bool.and_eq_true] at hx
    have hc := (Nm.dg_iff c).1 hx.1
    exact dv_mono_acc x y (a * 10 + (c.toNat - 48)) (b * 10 + (d.toNat - 48)) (by simpa using hl) hx.2 (by omega)
theorem less_dv : ∀ (x y : List UInt8) (a : Nat), x.length = y.length → x.all Nm.dg = true → y.all Nm.dg = true → Op.bytesLess x y = decide (Nm.dv a x < Nm.dv a y)
  | [], [], a, _, _, _ => by simp [Op.bytesLess]
  | c :: x, d :: y, a, hl, hx, hy => by
    simp only [List.all_cons, Bool.and_eq_true] at hx hy
    have hc := (Nm.dg_iff c).1 hx.1
    have hd := (Nm.dg_iff d).1 hy.1
    have hl' : x.length = y.length := by simpa using hl
    have e1 : Nm.dv a (c :: x) = Nm.dv (a * 10 + (c.toNat - 48)) x := rfl
    have e2 : Nm.dv a (d :: y) = Nm.dv (a * 10 + (d.toNat - 48)) y := rfl
    rw [Op.bytesLess, e1, e2]
    rcases Nat.lt_trichotomy c.toNat d.toNat with h | h | h
    · have hcd : decide (c < d) = true := by simpa [UInt8.lt_iff_toNat_lt] using h
      have := dv_mono_acc x y (a * 10 + (c.toNat - 48)) (a * 10 + (d.toNat - 48)) hl' hx.2 (by omega)
      simp [hcd, this]
    · obtain rfl := Nm.u8_ext h
      have := less_dv x y (a * 10 + (c.toNat - 48)) hl' hx.2 hy.2
      have hcc : decide (c < c) = false := by simp
      simp [this]
    · have hcd : decide (c < d) = false := by simp [UInt8.lt_iff_toNat_lt]; omega
      have hne : (c == d) = false := by rw [beq_eq_false_iff_ne]; intro e; subst e; omega
      have := dv_mono_acc y x (a * 10 + (d.toNat - 48)) (a * 10 + (c.toNat - 48)) hl'.symm hy.2 (by omega)
      simp [hcd, hne]; omega
theorem nDigits_mono : ∀ (v u : Nat), u ≤ v → Lib.nDigits u ≤ Lib.nDigits v := by
  intro v
  induction v using Nat.strongRecOn with
  | _ v ih =>
    intro u h
    by_cases hv : v < 10
    · rw [Lib.nDigits_small hv, Lib.nDigits_small (by omega)]; exact Nat.le_refl _
    · by_cases hu : u < 10
      · rw [Lib.nDigits_small hu]; exact Lib.nDigits_pos v
      · rw [Lib.nDigits_big hv, Lib.nDigits_big hu]
        have := ih (v / 10) (by omega) (u / 10) (by omega)
        omega
/-- Of two numbers' digits: shorter, or as long and less. -/
theorem digits_less (u v : Nat) : (decide ((Lib.decDigits u).length < (Lib.decDigits v).length) || (decide ((Lib.decDigits u).length = (Lib.decDigits v).length) && Op.bytesLess (Lib.decDigits u) (Lib.decDigits v))) = decide (u < v) := by
  obtain ⟨_, u2, _, u4⟩ := Nm.digits_of u
  obtain ⟨_, v2, _, v4⟩ := Nm.digits_of v
  rw [Lib.decDigits_length, Lib.decDigits_length]
  rcases Nat.lt_trichotomy (Lib.nDigits u) (Lib.nDigits v) with h | h | h
  · have huv : u < v := by
      rcases Nat.lt_or_ge u v with h' | h'
      · exact h'
      · have := nDigits_mono u v h'; omega
    simp [h, huv]
  · rw [less_dv _ _ 0 (by rw [Lib.decDigits_length, Lib.decDigits_length, h]) u2 v2, u4, v4]
    simp [h]
  · have huv : ¬ u < v := fun h' => by have := nDigits_mono v u (by omega); omega
    have h1 : ¬ Lib.nDigits u < Lib.nDigits v := by omega
    have h2 : ¬ Lib.nDigits u = Lib.nDigits v := by omega
    simp [h1, h2, huv]
theorem itoa_neg {a : Int} (h : a < 0) : Lib.itoa a = 45 :: Lib.decDigits a.natAbs := by rw [Lib.itoa, if_pos h]
theorem itoa_pos {a : Int} (h : ¬ a < 0) : Lib.itoa a = Lib.decDigits a.natAbs := by rw [Lib.itoa, if_neg h, show a.toNat = a.natAbs by omega]
/-- The law's last line. -/
theorem order_law {a b : Int} (hab : (decide (a < 0)) = decide (b < 0)) (hne : a ≠ b) :
    (((decide ((Lib.itoa a).length < (Lib.itoa b).length) || (decide ((Lib.itoa a).length = (Lib.itoa b).length) && Op.bytesLess (Lib.itoa a) (Lib.itoa b))) == decide (a < b)) == decide (0 ≤ a)) = true := by
  by_cases ha : a < 0
  · have hb : b < 0 := by simp [ha] at hab; omega
    have hl := digits_less a.natAbs b.natAbs
    rw [itoa_neg ha, itoa_neg hb]
    simp only [List.length_cons, Op.bytesLess]
    have e : (decide ((45 : UInt8) < 45) || ((45 : UInt8) == 45) && Op.bytesLess (Lib.decDigits a.natAbs) (Lib.decDigits b.natAbs)) = Op.bytesLess (Lib.decDigits a.natAbs) (Lib.decDigits b.natAbs) := by
      simp
    rw [e]
    have e1 : decide ((Lib.decDigits a.natAbs).length + 1 < (Lib.decDigits b.natAbs).length + 1) = decide ((Lib.decDigits a.natAbs).length < (Lib.decDigits b.natAbs).length) := by
      rw [decide_eq_decide]; omega
    have e2 : decide ((Lib.decDigits a.natAbs).length + 1 = (Lib.decDigits b.natAbs).length + 1) = decide ((Lib.decDigits a.natAbs).length = (Lib.decDigits b.natAbs).length) := by
      rw [decide_eq_decide]; omega
    rw [e1, e2, hl]
    have h0 : decide (0 ≤ a) = false := by simp; omega
    rw [h0]
    by_cases h : a.natAbs < b.natAbs
    · have : ¬ a < b := by omega
      simp [h, this]
    · have : a < b := by omega
      simp [h, this]
  · have hb : ¬ b < 0 := by simp [ha] at hab; omega
    rw [itoa_pos ha, itoa_pos hb, digits_less]
    have h0 : decide (0 ≤ a) = true := by simp; omega
    rw [h0]
    by_cases h : a.natAbs < b.natAbs
    · have : a < b := by omega
      simp [h, this]
    · have : ¬ a < b := by omega
      simp [h, this]

theorem itoa_head {a : Int} {s : ByteArray} (hs : s.data.toList = Lib.itoa a) (h : 0 < s.size) : ((s[0].toNat : Int) == 45) = decide (a < 0) := by
  have hl := head_at s h
  rw [hs] at hl
  by_cases ha : a < 0
  · rw [itoa_neg ha] at hl
    injection hl with h1 h2
    rw [← h1]; simp [ha]
  · rw [itoa_pos ha] at hl
    obtain ⟨_, u2, _, _⟩ := Nm.digits_of a.natAbs
    rw [hl] at u2
    simp only [List.all_cons, Bool.and_eq_true] at u2
    have := (Nm.dg_iff _).1 u2.1
    rw [show decide (a < 0) = false by simp; omega, beq_eq_false_iff_ne]
    omega

theorem order_eq (a b : Int) : (Lib.itoa a == Lib.itoa b) = (a == b) := by
  by_cases h : a = b
  · subst h; simp
  · have : ¬ Lib.itoa a = Lib.itoa b := fun e => h (Nm.itoa_inj e)
    rw [beq_eq_false_iff_ne.2 h, beq_eq_false_iff_ne.2 this]

set_option maxRecDepth 100000 in
set_option maxHeartbeats 1000000 in
theorem numOrder_walk (a b : Int) (w : World) (w0 : (Lit.int .i64 a).wf = true) (w1 : (Lit.int .i64 b).wf = true) (henv : NumEnv w) :
    Calls Tryd.prog 12 #[.int .i64 a, .int .i64 b] w fun e w' => e = .returned (.bool true) ∧ Below w.heap.size w w' := by
  obtain ⟨a0, a1⟩ := bounds_i64 w0
  obtain ⟨b0, b1⟩ := bounds_i64 w1
  clear w0 w1
  have hna := (Nm.itoa_form a).2.2.2
  have hnb := (Nm.itoa_form b).2.2.2
  have ea : (Lib.itoa a).isEmpty = false := by cases h : Lib.itoa a <;> simp_all
  have eb : (Lib.itoa b).isEmpty = false := by cases h : Lib.itoa b <;> simp_all
  have la : 0 < (Lib.itoa a).length := List.length_pos_iff.2 hna
  have heq := order_eq a b
  have hh := itoa_head (a := a) (s := ⟨(Lib.itoa a).toArray⟩) rfl la
  by_cases hs : decide (a < 0) = decide (b < 0)
  · have hs' : a < 0 ↔ b < 0 := by simpa using hs
    by_cases hab : a = b
    · subst hab
      go_enter Tryd.func12, Tryd.ntmps12
      go_wp2_with fail
      refine (Show_any a a0 a1 _ henv.toTabEnv).mono ?_
      rintro e w1 ⟨rfl, hb1⟩
      have henv1 := henv.below hb1
      go_wp2_with fail
      refine (Show_any a b0 b1 _ henv1.toTabEnv).mono ?_
      rintro e w2 ⟨rfl, hb2⟩
      have henv2 := henv1.below hb2
      clear henv henv1
      have hB := below_more hb1 hb2
      clear hb1 hb2
      go_wp2_with fail
      refine (awake6_any _ henv2).mono ?_
      rintro e w3 ⟨rfl, hb3⟩
      have hB3 := below_more hB hb3
      clear hB hb3 henv2
      go_wp2_with fail
      go_ret
      exact ⟨rfl, hB3⟩
    · have hbe : (a == b) = false := beq_eq_false_iff_ne.2 hab
      have hlaw := Lib.hid (order_law hs hab)
      clear hs hab
      by_cases h1 : (Lib.itoa a).length < (Lib.itoa b).length
      · go_enter Tryd.func12, Tryd.ntmps12
        go_wp2_with fail
        refine (Show_any a a0 a1 _ henv.toTabEnv).mono ?_
        rintro e w1 ⟨rfl, hb1⟩
        have henv1 := henv.below hb1
        go_wp2_with fail
        refine (Show_any b b0 b1 _ henv1.toTabEnv).mono ?_
        rintro e w2 ⟨rfl, hb2⟩
        have henv2 := henv1.below hb2
        clear henv henv1
        have hB := below_more hb1 hb2
        clear hb1 hb2
        go_wp2_with fail
        refine (awake6_any _ henv2).mono ?_
        rintro e w3 ⟨rfl, hb3⟩
        have hB3 := below_more hB hb3
        clear hB hb3 henv2
        go_wp2_with fail
        go_ret
        refine ⟨ret_bool ?_, hB3⟩
        have := hlaw.out
        simpa [h1] using this
      · by_cases h2 : (Lib.itoa a).length = (Lib.itoa b).length
        · have h2b : (((Lib.itoa a).length : Int) == ((Lib.itoa b).length : Int)) = true := by rw [h2]; simp
          have H2 := Lib.hid h2
          clear h2
          go_enter Tryd.func12, Tryd.ntmps12
          go_wp2_with fail
          refine (Show_any a a0 a1 _ henv.toTabEnv).mono ?_
          rintro e w1 ⟨rfl, hb1⟩
          have henv1 := henv.below hb1
          go_wp2_with fail
          refine (Show_any b b0 b1 _ henv1.toTabEnv).mono ?_
          rintro e w2 ⟨rfl, hb2⟩
          have henv2 := henv1.below hb2
          clear henv henv1
          have hB := below_more hb1 hb2
          clear hb1 hb2
          go_wp2_with fail
          refine (awake6_any _ henv2).mono ?_
          rintro e w3 ⟨rfl, hb3⟩
          have hB3 := below_more hB hb3
          clear hB hb3 henv2
          go_wp2_with fail
          go_ret
          refine ⟨ret_bool ?_, hB3⟩
          have := hlaw.out
          have h2 := H2.out
          simpa [h1, h2] using this
        · have h2b : (((Lib.itoa a).length : Int) == ((Lib.itoa b).length : Int)) = false := beq_eq_false_iff_ne.2 (by omega)
          go_enter Tryd.func12, Tryd.ntmps12
          go_wp2_with fail
          refine (Show_any a a0 a1 _ henv.toTabEnv).mono ?_
          rintro e w1 ⟨rfl, hb1⟩
          have henv1 := henv.below hb1
          go_wp2_with fail
          refine (Show_any b b0 b1 _ henv1.toTabEnv).mono ?_
          rintro e w2 ⟨rfl, hb2⟩
          have henv2 := henv1.below hb2
          clear henv henv1
          have hB := below_more hb1 hb2
          clear hb1 hb2
          go_wp2_with fail
          refine (awake6_any _ henv2).mono ?_
          rintro e w3 ⟨rfl, hb3⟩
          have hB3 := below_more hB hb3
          clear hB hb3 henv2
          go_wp2_with fail
          go_ret
          refine ⟨ret_bool ?_, hB3⟩
          have := hlaw.out
          simpa [h1, h2] using this
  · have hs' : ¬ (a < 0 ↔ b < 0) := by simpa using hs
    have hsb : (decide (a < 0) == decide (b < 0)) = false := beq_eq_false_iff_ne.2 hs
    clear hs
    go_enter Tryd.func12, Tryd.ntmps12
    go_wp2_with fail
    refine (Show_any a a0 a1 _ henv.toTabEnv).mono ?_
    rintro e w1 ⟨rfl, hb1⟩
    have henv1 := henv.below hb1
    go_wp2_with fail
    refine (Show_any b b0 b1 _ henv1.toTabEnv).mono ?_
    rintro e w2 ⟨rfl, hb2⟩
    have henv2 := henv1.below hb2
    clear henv henv1
    have hB := below_more hb1 hb2
    clear hb1 hb2
    go_wp2_with fail
    refine (awake6_any _ henv2).mono ?_
    rintro e w3 ⟨rfl, hb3⟩
    have hB3 := below_more hB hb3
    clear hB hb3 henv2
    go_wp2_with fail
    go_ret
    exact ⟨rfl, hB3⟩
end Go.Proofs.YtjekdhahbkofbaaDoor
