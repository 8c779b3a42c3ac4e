/-
  lex.token: the mark that begins at a place.
-/
import Derived.Test.YtfdecbfcddkoiaaGreatDoorLexS
import Derived.Deep.QuietTactic
import Derived.BigQuiet
namespace Go.Proofs.YtfdecbfcddkoiaaGreatDoor
open Go.RowKit

theorem eql_rule_nil (w : World) (f : Fn) (x y : Array Value) : (binOp .eql 64 (.func f x y) .nilFunc).run Tryz.prog w = .ok (.bool false) w := by kernel_rfl
theorem eql_nil_rule (w : World) : (binOp .eql 64 .nilFunc .nilFunc).run Tryz.prog w = .ok (.bool true) w := by kernel_rfl
/-- The rules lie in a block. -/
def RulesAt (w : World) (b : Nat) : Prop := w.heap[b]? = some (.cells ruleT 77 (0, 0))
theorem RulesAt.lt {w : World} {b : Nat} (h : RulesAt w b) : b < w.heap.size := (Array.getElem?_eq_some_iff.1 h).1
theorem RulesAt.keep {w w' : World} {b : Nat} (h : RulesAt w b) (hb : Below w.heap.size w w') : RulesAt w' b := by
  unfold RulesAt
  rw [hb.block b h.lt]; exact h
theorem RulesAt.cell {w : World} {b : Nat} (h : RulesAt w b) {c : Nat} (hc : c < 256) : w.cell? ⟨b, c, none⟩ = some (ruleV c) := by
  rw [cell_of_row w b c ruleT _ _ h, ruleT_get hc]
set_option maxRecDepth 100000 in
set_option maxHeartbeats 2000000 in
theorem token_end (s : ByteArray) (a b : Nat) (w : World) (ha : a = s.size) :
    Calls Tryz.prog 39 #[.pointer (some ⟨b, 0, none⟩), .string s, .int .i64 a] w fun e w' => e = .returned (.tuple #[.agg #[.int .u8 11, .int .i64 a, .int .i64 a, .int .i64 0, .string ⟨#[]⟩], .int .i64 0]) ∧ Below w.heap.size w w' := by
  have h1 : ((a : Int) == (s.size : Int)) = true := by rw [ha]; simp
  clear ha
  go_enter Tryz.func39, Tryz.ntmps39
  go_wp2_with fail
  exact bodyPost_ret (v := .tuple #[.agg #[.int .u8 11, .int .i64 a, .int .i64 a, .int .i64 0, .string ⟨#[]⟩], .int .i64 0]) (by simp [results, Tryz.results39, go_sem]) rfl ⟨rfl, bel_alloc (Below.refl _ _) _⟩
set_option maxRecDepth 100000 in
set_option maxHeartbeats 2000000 in
theorem token_nil (s : ByteArray) (a b : Nat) (w : World) (ha : a < s.size) (hR : RulesAt w b) (hv : ruleV s[a].toNat = .nilFunc) :
    Calls Tryz.prog 39 #[.pointer (some ⟨b, 0, none⟩), .string s, .int .i64 a] w fun e w' => e = .returned (.tuple #[.agg #[.int .u8 0, .int .i64 0, .int .i64 0, .int .i64 0, .string ⟨#[]⟩], .int .i64 3]) ∧ Below w.heap.size w w' := by
  have h1 : ((a : Int) == (s.size : Int)) = false := beq_eq_false_iff_ne.2 (by omega)
  have hlt := hR.lt
  have hsl := u8_lt s[a]
  have hcell := hR.cell hsl
  rw [hv] at hcell
  have g1 : (s[a].toNat : Int) < 256 := by omega
  have g0 : (0 : Int) ≤ (s[a].toNat : Int) := by omega
  have g2 : (0 : Int) ≤ (a : Int) := by omega
  have g3 : (a : Int) < (s.size : Int) := by omega
  have heq := eql_nil_rule
  clear hR hv
  go_enter Tryz.func39, Tryz.ntmps39
  go_wp2_with fail
  go_quiet (fail)
  go_wp2_with fail
  exact bodyPost_ret (v := .tuple #[.agg #[.int .u8 0, .int .i64 0, .int .i64 0, .int .i64 0, .string ⟨#[]⟩], .int .i64 3]) (by simp [results, Tryz.results39, go_sem]) rfl ⟨rfl, bel_set5 (bel_drewN (bel_alloc (Below.refl _ _) _) _) (Nat.le_refl _) _ _ _ _ _⟩
set_option maxRecDepth 100000 in
set_option maxHeartbeats 2000000 in
theorem token_open (s : ByteArray) (a b : Nat) (w : World) (ha : a < s.size) (hR : RulesAt w b) (hv : ruleV s[a].toNat = .func (.func 49) #[] #[]) (k x z n : Int) (t : ByteArray) (er : Int)
    (HC : Hid (∀ W, Below w.heap.size w W → Calls Tryz.prog 49 #[.string s, .int .i64 a] W fun e w' => e = .returned (.tuple #[.agg #[.int .u8 k, .int .i64 x, .int .i64 z, .int .i64 n, .string t], .int .i64 er]) ∧ Below W.heap.size W w')) :
    Calls Tryz.prog 39 #[.pointer (some ⟨b, 0, none⟩), .string s, .int .i64 a] w fun e w' => e = .returned (.tuple #[.agg #[.int .u8 k, .int .i64 x, .int .i64 z, .int .i64 n, .string t], .int .i64 er]) ∧ Below w.heap.size w w' := by
  have h1 : ((a : Int) == (s.size : Int)) = false := beq_eq_false_iff_ne.2 (by omega)
  have hlt := hR.lt
  have hsl := u8_lt s[a]
  have hcell := hR.cell hsl
  rw [hv] at hcell
  have g1 : (s[a].toNat : Int) < 256 := by omega
  have g0 : (0 : Int) ≤ (s[a].toNat : Int) := by omega
  have g2 : (0 : Int) ≤ (a : Int) := by omega
  have g3 : (a : Int) < (s.size : Int) := by omega
  have heq := eql_rule_nil
  clear hR hv
  go_enter Tryz.func39, Tryz.ntmps39
  go_wp2_with fail
  go_quiet (fail)
  go_wp2_with fail
  refine (HC.out _ ?_).mono ?_
  · exact bel_drewN (bel_alloc (Below.refl _ _) _) _
  rintro e w2 ⟨rfl, hb2⟩
  have hsz : w.heap.size < w2.heap.size := by have := hb2.size; simp at this; omega
  obtain ⟨hc, hf⟩ := bcell hb2
  go_wp2_with fail
  exact bodyPost_ret (v := .tuple #[.agg #[.int .u8 k, .int .i64 x, .int .i64 z, .int .i64 n, .string t], .int .i64 er]) (by simp [results, Tryz.results39, go_sem, hc]) rfl ⟨rfl, bel_set5 (below_more (bel_drewN (bel_alloc (Below.refl _ _) _) _) hb2) (Nat.le_refl _) _ _ _ _ _⟩
set_option maxRecDepth 100000 in
set_option maxHeartbeats 2000000 in
theorem token_shut (s : ByteArray) (a b : Nat) (w : World) (ha : a < s.size) (hR : RulesAt w b) (hv : ruleV s[a].toNat = .func (.func 50) #[] #[]) (k x z n : Int) (t : ByteArray) (er : Int)
    (HC : Hid (∀ W, Below w.heap.size w W → Calls Tryz.prog 50 #[.string s, .int .i64 a] W fun e w' => e = .returned (.tuple #[.agg #[.int .u8 k, .int .i64 x, .int .i64 z, .int .i64 n, .string t], .int .i64 er]) ∧ Below W.heap.size W w')) :
    Calls Tryz.prog 39 #[.pointer (some ⟨b, 0, none⟩), .string s, .int .i64 a] w fun e w' => e = .returned (.tuple #[.agg #[.int .u8 k, .int .i64 x, .int .i64 z, .int .i64 n, .string t], .int .i64 er]) ∧ Below w.heap.size w w' := by
  have h1 : ((a : Int) == (s.size : Int)) = false := beq_eq_false_iff_ne.2 (by omega)
  have hlt := hR.lt
  have hsl := u8_lt s[a]
  have hcell := hR.cell hsl
  rw [hv] at hcell
  have g1 : (s[a].toNat : Int) < 256 := by omega
  have g0 : (0 : Int) ≤ (s[a].toNat : Int) := by omega
  have g2 : (0 : Int) ≤ (a : Int) := by omega
  have g3 : (a : Int) < (s.size : Int) := by omega
  have heq := eql_rule_nil
  clear hR hv
  go_enter Tryz.func39, Tryz.ntmps39
  go_wp2_with fail
  go_quiet (fail)
  go_wp2_with fail
  refine (HC.out _ ?_).mono ?_
  · exact bel_drewN (bel_alloc (Below.refl _ _) _) _
  rintro e w2 ⟨rfl, hb2⟩
  have hsz : w.heap.size < w2.heap.size := by have := hb2.size; simp at this; omega
  obtain ⟨hc, hf⟩ := bcell hb2
  go_wp2_with fail
  exact bodyPost_ret (v := .tuple #[.agg #[.int .u8 k, .int .i64 x, .int .i64 z, .int .i64 n, .string t], .int .i64 er]) (by simp [results, Tryz.results39, go_sem, hc]) rfl ⟨rfl, bel_set5 (below_more (bel_drewN (bel_alloc (Below.refl _ _) _) _) hb2) (Nat.le_refl _) _ _ _ _ _⟩
set_option maxRecDepth 100000 in
set_option maxHeartbeats 2000000 in
theorem token_first (s : ByteArray) (a b : Nat) (w : World) (ha : a < s.size) (hR : RulesAt w b) (hv : ruleV s[a].toNat = .func (.func 51) #[] #[]) (k x z n : Int) (t : ByteArray) (er : Int)
    (HC : Hid (∀ W, Below w.heap.size w W → Calls Tryz.prog 51 #[.string s, .int .i64 a] W fun e w' => e = .returned (.tuple #[.agg #[.int .u8 k, .int .i64 x, .int .i64 z, .int .i64 n, .string t], .int .i64 er]) ∧ Below W.heap.size W w')) :
    Calls Tryz.prog 39 #[.pointer (some ⟨b, 0, none⟩), .string s, .int .i64 a] w fun e w' => e = .returned (.tuple #[.agg #[.int .u8 k, .int .i64 x, .int .i64 z, .int .i64 n, .string t], .int .i64 er]) ∧ Below w.heap.size w w' := by
  have h1 : ((a : Int) == (s.size : Int)) = false := beq_eq_false_iff_ne.2 (by omega)
  have hlt := hR.lt
  have hsl := u8_lt s[a]
  have hcell := hR.cell hsl
  rw [hv] at hcell
  have g1 : (s[a].toNat : Int) < 256 := by omega
  have g0 : (0 : Int) ≤ (s[a].toNat : Int) := by omega
  have g2 : (0 : Int) ≤ (a : Int) := by omega
  have g3 : (a : Int) < (s.size : Int) := by omega
  have heq := eql_rule_nil
  clear hR hv
  go_enter Tryz.func39, Tryz.ntmps39
  go_wp2_with fail
  go_quiet (fail)
  go_wp2_with fail
  refine (HC.out _ ?_).mono ?_
  · exact bel_drewN (bel_alloc (Below.refl _ _) _) _
  rintro e w2 ⟨rfl, hb2⟩
  have hsz : w.heap.size < w2.heap.size := by have := hb2.size; simp at this; omega
  obtain ⟨hc, hf⟩ := bcell hb2
  go_wp2_with fail
  exact bodyPost_ret (v := .tuple #[.agg #[.int .u8 k, .int .i64 x, .int .i64 z, .int .i64 n, .string t], .int .i64 er]) (by simp [results, Tryz.results39, go_sem, hc]) rfl ⟨rfl, bel_set5 (below_more (bel_drewN (bel_alloc (Below.refl _ _) _) _) hb2) (Nat.le_refl _) _ _ _ _ _⟩
set_option maxRecDepth 100000 in
set_option maxHeartbeats 2000000 in
theorem token_last (s : ByteArray) (a b : Nat) (w : World) (ha : a < s.size) (hR : RulesAt w b) (hv : ruleV s[a].toNat = .func (.func 52) #[] #[]) (k x z n : Int) (t : ByteArray) (er : Int)
    (HC : Hid (∀ W, Below w.heap.size w W → Calls Tryz.prog 52 #[.string s, .int .i64 a] W fun e w' => e = .returned (.tuple #[.agg #[.int .u8 k, .int .i64 x, .int .i64 z, .int .i64 n, .string t], .int .i64 er]) ∧ Below W.heap.size W w')) :
    Calls Tryz.prog 39 #[.pointer (some ⟨b, 0, none⟩), .string s, .int .i64 a] w fun e w' => e = .returned (.tuple #[.agg #[.int .u8 k, .int .i64 x, .int .i64 z, .int .i64 n, .string t], .int .i64 er]) ∧ Below w.heap.size w w' := by
  have h1 : ((a : Int) == (s.size : Int)) = false := beq_eq_false_iff_ne.2 (by omega)
  have hlt := hR.lt
  have hsl := u8_lt s[a]
  have hcell := hR.cell hsl
  rw [hv] at hcell
  have g1 : (s[a].toNat : Int) < 256 := by omega
  have g0 : (0 : Int) ≤ (s[a].toNat : Int) := by omega
  have g2 : (0 : Int) ≤ (a : Int) := by omega
  have g3 : (a : Int) < (s.size : Int) := by omega
  have heq := eql_rule_nil
  clear hR hv
  go_enter Tryz.func39, Tryz.ntmps39
  go_wp2_with fail
  go_quiet (fail)
  go_wp2_with fail
  refine (HC.out _ ?_).mono ?_
  · exact bel_drewN (bel_alloc (Below.refl _ _) _) _
  rintro e w2 ⟨rfl, hb2⟩
  have hsz : w.heap.size < w2.heap.size := by have := hb2.size; simp at this; omega
  obtain ⟨hc, hf⟩ := bcell hb2
  go_wp2_with fail
  exact bodyPost_ret (v := .tuple #[.agg #[.int .u8 k, .int .i64 x, .int .i64 z, .int .i64 n, .string t], .int .i64 er]) (by simp [results, Tryz.results39, go_sem, hc]) rfl ⟨rfl, bel_set5 (below_more (bel_drewN (bel_alloc (Below.refl _ _) _) _) hb2) (Nat.le_refl _) _ _ _ _ _⟩
set_option maxRecDepth 100000 in
set_option maxHeartbeats 2000000 in
theorem token_comma (s : ByteArray) (a b : Nat) (w : World) (ha : a < s.size) (hR : RulesAt w b) (hv : ruleV s[a].toNat = .func (.func 53) #[] #[]) (k x z n : Int) (t : ByteArray) (er : Int)
    (HC : Hid (∀ W, Below w.heap.size w W → Calls Tryz.prog 53 #[.string s, .int .i64 a] W fun e w' => e = .returned (.tuple #[.agg #[.int .u8 k, .int .i64 x, .int .i64 z, .int .i64 n, .string t], .int .i64 er]) ∧ Below W.heap.size W w')) :
    Calls Tryz.prog 39 #[.pointer (some ⟨b, 0, none⟩), .string s, .int .i64 a] w fun e w' => e = .returned (.tuple #[.agg #[.int .u8 k, .int .i64 x, .int .i64 z, .int .i64 n, .string t], .int .i64 er]) ∧ Below w.heap.size w w' := by
  have h1 : ((a : Int) == (s.size : Int)) = false := beq_eq_false_iff_ne.2 (by omega)
  have hlt := hR.lt
  have hsl := u8_lt s[a]
  have hcell := hR.cell hsl
  rw [hv] at hcell
  have g1 : (s[a].toNat : Int) < 256 := by omega
  have g0 : (0 : Int) ≤ (s[a].toNat : Int) := by omega
  have g2 : (0 : Int) ≤ (a : Int) := by omega
  have g3 : (a : Int) < (s.size : Int) := by omega
  have heq := eql_rule_nil
  clear hR hv
  go_enter Tryz.func39, Tryz.ntmps39
  go_wp2_with fail
  go_quiet (fail)
  go_wp2_with fail
  refine (HC.out _ ?_).mono ?_
  · exact bel_drewN (bel_alloc (Below.refl _ _) _) _
  rintro e w2 ⟨rfl, hb2⟩
  have hsz : w.heap.size < w2.heap.size := by have := hb2.size; simp at this; omega
  obtain ⟨hc, hf⟩ := bcell hb2
  go_wp2_with fail
  exact bodyPost_ret (v := .tuple #[.agg #[.int .u8 k, .int .i64 x, .int .i64 z, .int .i64 n, .string t], .int .i64 er]) (by simp [results, Tryz.results39, go_sem, hc]) rfl ⟨rfl, bel_set5 (below_more (bel_drewN (bel_alloc (Below.refl _ _) _) _) hb2) (Nat.le_refl _) _ _ _ _ _⟩
set_option maxRecDepth 100000 in
set_option maxHeartbeats 2000000 in
theorem token_colon (s : ByteArray) (a b : Nat) (w : World) (ha : a < s.size) (hR : RulesAt w b) (hv : ruleV s[a].toNat = .func (.func 54) #[] #[]) (k x z n : Int) (t : ByteArray) (er : Int)
    (HC : Hid (∀ W, Below w.heap.size w W → Calls Tryz.prog 54 #[.string s, .int .i64 a] W fun e w' => e = .returned (.tuple #[.agg #[.int .u8 k, .int .i64 x, .int .i64 z, .int .i64 n, .string t], .int .i64 er]) ∧ Below W.heap.size W w')) :
    Calls Tryz.prog 39 #[.pointer (some ⟨b, 0, none⟩), .string s, .int .i64 a] w fun e w' => e = .returned (.tuple #[.agg #[.int .u8 k, .int .i64 x, .int .i64 z, .int .i64 n, .string t], .int .i64 er]) ∧ Below w.heap.size w w' := by
  have h1 : ((a : Int) == (s.size : Int)) = false := beq_eq_false_iff_ne.2 (by omega)
  have hlt := hR.lt
  have hsl := u8_lt s[a]
  have hcell := hR.cell hsl
  rw [hv] at hcell
  have g1 : (s[a].toNat : Int) < 256 := by omega
  have g0 : (0 : Int) ≤ (s[a].toNat : Int) := by omega
  have g2 : (0 : Int) ≤ (a : Int) := by omega
  have g3 : (a : Int) < (s.size : Int) := by omega
  have heq := eql_rule_nil
  clear hR hv
  go_enter Tryz.func39, Tryz.ntmps39
  go_wp2_with fail
  go_quiet (fail)
  go_wp2_with fail
  refine (HC.out _ ?_).mono ?_
  · exact bel_drewN (bel_alloc (Below.refl _ _) _) _
  rintro e w2 ⟨rfl, hb2⟩
  have hsz : w.heap.size < w2.heap.size := by have := hb2.size; simp at this; omega
  obtain ⟨hc, hf⟩ := bcell hb2
  go_wp2_with fail
  exact bodyPost_ret (v := .tuple #[.agg #[.int .u8 k, .int .i64 x, .int .i64 z, .int .i64 n, .string t], .int .i64 er]) (by simp [results, Tryz.results39, go_sem, hc]) rfl ⟨rfl, bel_set5 (below_more (bel_drewN (bel_alloc (Below.refl _ _) _) _) hb2) (Nat.le_refl _) _ _ _ _ _⟩
set_option maxRecDepth 100000 in
set_option maxHeartbeats 2000000 in
theorem token_number (s : ByteArray) (a b : Nat) (w : World) (ha : a < s.size) (hR : RulesAt w b) (hv : ruleV s[a].toNat = .func (.func 55) #[] #[]) (k x z n : Int) (t : ByteArray) (er : Int)
    (HC : Hid (∀ W, Below w.heap.size w W → Calls Tryz.prog 55 #[.string s, .int .i64 a] W fun e w' => e = .returned (.tuple #[.agg #[.int .u8 k, .int .i64 x, .int .i64 z, .int .i64 n, .string t], .int .i64 er]) ∧ Below W.heap.size W w')) :
    Calls Tryz.prog 39 #[.pointer (some ⟨b, 0, none⟩), .string s, .int .i64 a] w fun e w' => e = .returned (.tuple #[.agg #[.int .u8 k, .int .i64 x, .int .i64 z, .int .i64 n, .string t], .int .i64 er]) ∧ Below w.heap.size w w' := by
  have h1 : ((a : Int) == (s.size : Int)) = false := beq_eq_false_iff_ne.2 (by omega)
  have hlt := hR.lt
  have hsl := u8_lt s[a]
  have hcell := hR.cell hsl
  rw [hv] at hcell
  have g1 : (s[a].toNat : Int) < 256 := by omega
  have g0 : (0 : Int) ≤ (s[a].toNat : Int) := by omega
  have g2 : (0 : Int) ≤ (a : Int) := by omega
  have g3 : (a : Int) < (s.size : Int) := by omega
  have heq := eql_rule_nil
  clear hR hv
  go_enter Tryz.func39, Tryz.ntmps39
  go_wp2_with fail
  go_quiet (fail)
  go_wp2_with fail
  refine (HC.out _ ?_).mono ?_
  · exact bel_drewN (bel_alloc (Below.refl _ _) _) _
  rintro e w2 ⟨rfl, hb2⟩
  have hsz : w.heap.size < w2.heap.size := by have := hb2.size; simp at this; omega
  obtain ⟨hc, hf⟩ := bcell hb2
  go_wp2_with fail
  exact bodyPost_ret (v := .tuple #[.agg #[.int .u8 k, .int .i64 x, .int .i64 z, .int .i64 n, .string t], .int .i64 er]) (by simp [results, Tryz.results39, go_sem, hc]) rfl ⟨rfl, bel_set5 (below_more (bel_drewN (bel_alloc (Below.refl _ _) _) _) hb2) (Nat.le_refl _) _ _ _ _ _⟩
set_option maxRecDepth 100000 in
set_option maxHeartbeats 2000000 in
theorem token_text (s : ByteArray) (a b : Nat) (w : World) (ha : a < s.size) (hR : RulesAt w b) (hv : ruleV s[a].toNat = .func (.func 56) #[] #[]) (k x z n : Int) (t : ByteArray) (er : Int)
    (HC : Hid (∀ W, Below w.heap.size w W → Calls Tryz.prog 56 #[.string s, .int .i64 a] W fun e w' => e = .returned (.tuple #[.agg #[.int .u8 k, .int .i64 x, .int .i64 z, .int .i64 n, .string t], .int .i64 er]) ∧ Below W.heap.size W w')) :
    Calls Tryz.prog 39 #[.pointer (some ⟨b, 0, none⟩), .string s, .int .i64 a] w fun e w' => e = .returned (.tuple #[.agg #[.int .u8 k, .int .i64 x, .int .i64 z, .int .i64 n, .string t], .int .i64 er]) ∧ Below w.heap.size w w' := by
  have h1 : ((a : Int) == (s.size : Int)) = false := beq_eq_false_iff_ne.2 (by omega)
  have hlt := hR.lt
  have hsl := u8_lt s[a]
  have hcell := hR.cell hsl
  rw [hv] at hcell
  have g1 : (s[a].toNat : Int) < 256 := by omega
  have g0 : (0 : Int) ≤ (s[a].toNat : Int) := by omega
  have g2 : (0 : Int) ≤ (a : Int) := by omega
  have g3 : (a : Int) < (s.size : Int) := by omega
  have heq := eql_rule_nil
  clear hR hv
  go_enter Tryz.func39, Tryz.ntmps39
  go_wp2_with fail
  go_quiet (fail)
  go_wp2_with fail
  refine (HC.out _ ?_).mono ?_
  · exact bel_drewN (bel_alloc (Below.refl _ _) _) _
  rintro e w2 ⟨rfl, hb2⟩
  have hsz : w.heap.size < w2.heap.size := by have := hb2.size; simp at this; omega
  obtain ⟨hc, hf⟩ := bcell hb2
  go_wp2_with fail
  exact bodyPost_ret (v := .tuple #[.agg #[.int .u8 k, .int .i64 x, .int .i64 z, .int .i64 n, .string t], .int .i64 er]) (by simp [results, Tryz.results39, go_sem, hc]) rfl ⟨rfl, bel_set5 (below_more (bel_drewN (bel_alloc (Below.refl _ _) _) _) hb2) (Nat.le_refl _) _ _ _ _ _⟩
set_option maxRecDepth 100000 in
set_option maxHeartbeats 2000000 in
theorem token_word (s : ByteArray) (a b : Nat) (w : World) (ha : a < s.size) (hR : RulesAt w b) (hv : ruleV s[a].toNat = .func (.func 57) #[] #[]) (k x z n : Int) (t : ByteArray) (er : Int)
    (HC : Hid (∀ W, Below w.heap.size w W → Calls Tryz.prog 57 #[.string s, .int .i64 a] W fun e w' => e = .returned (.tuple #[.agg #[.int .u8 k, .int .i64 x, .int .i64 z, .int .i64 n, .string t], .int .i64 er]) ∧ Below W.heap.size W w')) :
    Calls Tryz.prog 39 #[.pointer (some ⟨b, 0, none⟩), .string s, .int .i64 a] w fun e w' => e = .returned (.tuple #[.agg #[.int .u8 k, .int .i64 x, .int .i64 z, .int .i64 n, .string t], .int .i64 er]) ∧ Below w.heap.size w w' := by
  have h1 : ((a : Int) == (s.size : Int)) = false := beq_eq_false_iff_ne.2 (by omega)
  have hlt := hR.lt
  have hsl := u8_lt s[a]
  have hcell := hR.cell hsl
  rw [hv] at hcell
  have g1 : (s[a].toNat : Int) < 256 := by omega
  have g0 : (0 : Int) ≤ (s[a].toNat : Int) := by omega
  have g2 : (0 : Int) ≤ (a : Int) := by omega
  have g3 : (a : Int) < (s.size : Int) := by omega
  have heq := eql_rule_nil
  clear hR hv
  go_enter Tryz.func39, Tryz.ntmps39
  go_wp2_with fail
  go_quiet (fail)
  go_wp2_with fail
  refine (HC.out _ ?_).mono ?_
  · exact bel_drewN (bel_alloc (Below.refl _ _) _) _
  rintro e w2 ⟨rfl, hb2⟩
  have hsz : w.heap.size < w2.heap.size := by have := hb2.size; simp at this; omega
  obtain ⟨hc, hf⟩ := bcell hb2
  go_wp2_with fail
  exact bodyPost_ret (v := .tuple #[.agg #[.int .u8 k, .int .i64 x, .int .i64 z, .int .i64 n, .string t], .int .i64 er]) (by simp [results, Tryz.results39, go_sem, hc]) rfl ⟨rfl, bel_set5 (below_more (bel_drewN (bel_alloc (Below.refl _ _) _) _) hb2) (Nat.le_refl _) _ _ _ _ _⟩
theorem signV {c : UInt8} {n : Nat} (h : c.toNat = n) : signOf c = if n = 123 then 1 else if n = 125 then 2 else if n = 91 then 3 else if n = 93 then 4 else if n = 44 then 5 else if n = 58 then 6 else 0 := by unfold signOf; rw [h]
theorem signV_no {c : UInt8} (h : c.toNat ≠ 123 ∧ c.toNat ≠ 125 ∧ c.toNat ≠ 91 ∧ c.toNat ≠ 93 ∧ c.toNat ≠ 44 ∧ c.toNat ≠ 58) : signOf c = 0 := by
  unfold signOf
  rw [if_neg h.1, if_neg h.2.1, if_neg h.2.2.1, if_neg h.2.2.2.1, if_neg h.2.2.2.2.1, if_neg h.2.2.2.2.2]
theorem numFirst_iff (c : UInt8) : numFirst c = true ↔ (48 ≤ c.toNat ∧ c.toNat ≤ 57) ∨ c.toNat = 45 ∨ c.toNat = 43 ∨ c.toNat = 46 := by
  simp [numFirst, Nm.dg, or_assoc]
theorem token_any (s : ByteArray) (a b : Nat) (w : World) (hs : s.size ≤ 281474976710656) (ha : a ≤ s.size) (henv : NumEnv w) (hR : RulesAt w b) (k x z n : Int) (t : ByteArray) (er : Int) (hr : Hid (resV (tokR a (tokP (s.data.toList.drop a))) = (k, x, z, n, t, er))) :
    Calls Tryz.prog 39 #[.pointer (some ⟨b, 0, none⟩), .string s, .int .i64 a] w fun e w' => e = .returned (.tuple #[.agg #[.int .u8 k, .int .i64 x, .int .i64 z, .int .i64 n, .string t], .int .i64 er]) ∧ Below w.heap.size w w' := by
  have h := hr.out
  by_cases hlt : a < s.size
  · rw [drop_at hlt, tokP] at h
    have hsign : ∀ (m : Nat), s[a].toNat = m → ∀ K : Int, K ≠ 0 → signOf s[a] = K → k = K ∧ x = (a : Int) ∧ z = (a : Int) + 1 ∧ n = 0 ∧ t = ⟨#[]⟩ ∧ er = 0 := by
      intro m hm K hK hs
      rw [if_pos (by rw [hs]; exact hK), hs] at h
      exact resV_ok h
    by_cases c1 : s[a].toNat = 123
    · obtain ⟨rfl, rfl, rfl, rfl, rfl, rfl⟩ := hsign _ c1 1 (by decide) (signV c1)
      exact token_open s a b w hlt hR (by rw [c1]; rfl) _ _ _ _ _ _ (fun W _ => sign_open s a W (by omega))
    by_cases c2 : s[a].toNat = 125
    · obtain ⟨rfl, rfl, rfl, rfl, rfl, rfl⟩ := hsign _ c2 2 (by decide) (signV c2)
      exact token_shut s a b w hlt hR (by rw [c2]; rfl) _ _ _ _ _ _ (fun W _ => sign_shut s a W (by omega))
    by_cases c3 : s[a].toNat = 91
    · obtain ⟨rfl, rfl, rfl, rfl, rfl, rfl⟩ := hsign _ c3 3 (by decide) (signV c3)
      exact token_first s a b w hlt hR (by rw [c3]; rfl) _ _ _ _ _ _ (fun W _ => sign_first s a W (by omega))
    by_cases c4 : s[a].toNat = 93
    · obtain ⟨rfl, rfl, rfl, rfl, rfl, rfl⟩ := hsign _ c4 4 (by decide) (signV c4)
      exact token_last s a b w hlt hR (by rw [c4]; rfl) _ _ _ _ _ _ (fun W _ => sign_last s a W (by omega))
    by_cases c5 : s[a].toNat = 44
    · obtain ⟨rfl, rfl, rfl, rfl, rfl, rfl⟩ := hsign _ c5 5 (by decide) (signV c5)
      exact token_comma s a b w hlt hR (by rw [c5]; rfl) _ _ _ _ _ _ (fun W _ => sign_comma s a W (by omega))
    by_cases c6 : s[a].toNat = 58
    · obtain ⟨rfl, rfl, rfl, rfl, rfl, rfl⟩ := hsign _ c6 6 (by decide) (signV c6)
      exact token_colon s a b w hlt hR (by rw [c6]; rfl) _ _ _ _ _ _ (fun W _ => sign_colon s a W (by omega))
    have h0 := signV_no (c := s[a]) ⟨c1, c2, c3, c4, c5, c6⟩
    rw [if_neg (by simp [h0])] at h
    by_cases c7 : s[a].toNat = 34
    · rw [if_pos c7] at h
      exact token_text s a b w hlt hR (by rw [c7]; rfl) _ _ _ _ _ _ (fun W _ => text_lex s a W hs hlt c7 _ _ _ _ _ _ h)
    rw [if_neg c7] at h
    by_cases c8 : (48 ≤ s[a].toNat ∧ s[a].toNat ≤ 57) ∨ s[a].toNat = 45 ∨ s[a].toNat = 43 ∨ s[a].toNat = 46
    · rw [if_pos ((numFirst_iff _).2 c8), ← drop_at hlt] at h
      refine token_number s a b w hlt hR ?_ _ _ _ _ _ _ (fun W hW => number_any s a W hs ha (henv.below hW) _ _ _ _ _ _ h)
      unfold ruleV
      rw [if_neg c1, if_neg c2, if_neg c3, if_neg c4, if_neg c5, if_neg c6, if_neg c7, if_pos c8]
    rw [if_neg (fun hh => c8 ((numFirst_iff _).1 hh)), ← drop_at hlt] at h
    by_cases c9 : 97 ≤ s[a].toNat ∧ s[a].toNat ≤ 122
    · refine token_word s a b w hlt hR ?_ _ _ _ _ _ _ (fun W _ => word_any s a W hs ha _ _ _ _ _ _ h)
      unfold ruleV
      rw [if_neg c1, if_neg c2, if_neg c3, if_neg c4, if_neg c5, if_neg c6, if_neg c7, if_neg c8, if_pos c9]
    · have hw : (s.data.toList.drop a).takeWhile isLow = [] := by
        rw [drop_at hlt, List.takeWhile_cons, if_neg]
        simp [isLow]
        omega
      unfold wordP at h
      rw [hw, if_neg (by simp), if_neg (by simp)] at h
      obtain ⟨rfl, rfl, rfl, rfl, rfl, rfl⟩ := resV_bad (by decide) h
      refine token_nil s a b w hlt hR ?_
      unfold ruleV
      rw [if_neg c1, if_neg c2, if_neg c3, if_neg c4, if_neg c5, if_neg c6, if_neg c7, if_neg c8, if_neg c9]
  · have hae : a = s.size := by omega
    rw [drop_none (by omega), tokP_nil] at h
    obtain ⟨rfl, rfl, rfl, rfl, rfl, rfl⟩ := resV_ok h
    have := token_end s a b w hae
    simpa using this
end Go.Proofs.YtfdecbfcddkoiaaGreatDoor
