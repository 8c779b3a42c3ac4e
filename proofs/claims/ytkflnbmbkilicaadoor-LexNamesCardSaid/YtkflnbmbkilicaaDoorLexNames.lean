/-
  The walk of the law LexNames: the examples, one by one.
-/
import Derived.Test.YtkflnbmbkilicaaDoorLexAwake
import Derived.Test.YtkflnbmbkilicaaDoorBlk
import Derived.Laws.StructEq
import Derived.Laws.MakeOwn
namespace Go.Proofs.YtkflnbmbkilicaaDoor
open Go.RowKit

theorem namesA : allR ⟨#[123, 125, 91, 93, 44, 58, 116, 114, 117, 101, 32, 102, 97, 108, 115, 101, 45, 53, 34, 120, 34]⟩ = ([⟨1, 0, 1, 0, []⟩, ⟨2, 1, 2, 0, []⟩, ⟨3, 2, 3, 0, []⟩, ⟨4, 3, 4, 0, []⟩, ⟨5, 4, 5, 0, []⟩, ⟨6, 5, 6, 0, []⟩, ⟨7, 6, 10, 0, []⟩, ⟨8, 11, 16, 0, []⟩, ⟨9, 16, 18, -5, []⟩, ⟨10, 18, 21, 0, [120]⟩, ⟨11, 21, 21, 0, []⟩], 0, 0) := by kernel_rfl
theorem namesN : resV (nextM (⟨#[97]⟩ : ByteArray).data.toList 1) = (11, 1, 1, 0, ⟨#[]⟩, 0) := by kernel_rfl
def nmMarks : List Mk := [⟨1, 0, 1, 0, []⟩, ⟨2, 1, 2, 0, []⟩, ⟨3, 2, 3, 0, []⟩, ⟨4, 3, 4, 0, []⟩, ⟨5, 4, 5, 0, []⟩, ⟨6, 5, 6, 0, []⟩, ⟨7, 6, 10, 0, []⟩, ⟨8, 11, 16, 0, []⟩, ⟨9, 16, 18, -5, []⟩, ⟨10, 18, 21, 0, [120]⟩, ⟨11, 21, 21, 0, []⟩]
theorem nmMarks_k : ∀ k : Nat, k < 11 → ∃ m, nmMarks[k]? = some m ∧ m.k = (k : Int) + 1
  | 0, _ => ⟨_, rfl, rfl⟩
  | 1, _ => ⟨_, rfl, rfl⟩
  | 2, _ => ⟨_, rfl, rfl⟩
  | 3, _ => ⟨_, rfl, rfl⟩
  | 4, _ => ⟨_, rfl, rfl⟩
  | 5, _ => ⟨_, rfl, rfl⟩
  | 6, _ => ⟨_, rfl, rfl⟩
  | 7, _ => ⟨_, rfl, rfl⟩
  | 8, _ => ⟨_, rfl, rfl⟩
  | 9, _ => ⟨_, rfl, rfl⟩
  | 10, _ => ⟨_, rfl, rfl⟩
  | k + 11, h => by omega
/-- The rows of texts, with where and how each is wrong. -/
def nmRows : List (ByteArray × Nat × Int) := [(⟨#[116, 114, 117]⟩, 0, 3), (⟨#[116, 114, 117, 101, 102, 97, 108, 115, 101]⟩, 0, 3), (⟨#[116, 114, 117, 101, 88]⟩, 4, 3), (⟨#[110, 117, 108, 108]⟩, 0, 3), (⟨#[84, 114, 117, 101]⟩, 0, 3), (⟨#[32, 9, 13, 10, 39]⟩, 4, 3), (⟨#[0]⟩, 0, 3), (⟨#[11]⟩, 0, 3), (⟨#[91, 32, 48, 49, 93]⟩, 2, 3), (⟨#[49, 44, 45]⟩, 2, 3), (⟨#[49, 116, 114, 117, 101]⟩, 1, 0), (⟨#[49, 101, 53]⟩, 0, 3), (⟨#[101, 53]⟩, 0, 3), (⟨#[43, 49]⟩, 0, 3), (⟨#[46]⟩, 0, 3), (⟨#[57, 50, 50, 51, 51, 55, 50, 48, 51, 54, 56, 53, 52, 55, 55, 53, 56, 48, 56]⟩, 0, 9), (⟨#[34, 97]⟩, 0, 4), (⟨#[44, 34, 255, 34]⟩, 1, 12), (⟨#[35]⟩, 0, 3), (⟨#[233]⟩, 0, 3)]
def nmCells (l : List (ByteArray × Nat × Int)) : List Value := l.flatMap fun x => [.string x.1, .int .i64 x.2.1, .int .i64 x.2.2]
def nmRowB (x : ByteArray × Nat × Int) : Bool := decide (x.1.size ≤ 100) && decide ((allR x.1).2.2 = x.2.2) && (if (allR x.1).2.2 = 0 then decide ((allR x.1).2.1 = 0) else decide ((allR x.1).2.1 = x.2.1) && (allR x.1).1.isEmpty)
theorem nmRows_ok : nmRows.all nmRowB = true := by kernel_rfl
theorem nmCells_get : ∀ (l : List (ByteArray × Nat × Int)) (i : Nat) (x : ByteArray × Nat × Int), l[i]? = some x → (nmCells l)[i * 3]? = some (.string x.1) ∧ (nmCells l)[i * 3 + 1]? = some (.int .i64 x.2.1) ∧ (nmCells l)[i * 3 + 2]? = some (.int .i64 x.2.2)
  | [], i, x, h => by simp at h
  | y :: r, 0, x, h => by
    simp at h; subst h
    exact ⟨rfl, rfl, rfl⟩
  | y :: r, i + 1, x, h => by
    obtain ⟨a, b, c⟩ := nmCells_get r i x (by simpa using h)
    refine ⟨?_, ?_, ?_⟩
    · rw [← a]; show (_ :: _ :: _ :: nmCells r)[_]? = _; rw [show (i + 1) * 3 = i * 3 + 1 + 1 + 1 by omega]; rfl
    · rw [← b]; show (_ :: _ :: _ :: nmCells r)[_]? = _; rw [show (i + 1) * 3 + 1 = i * 3 + 1 + 1 + 1 + 1 by omega]; rfl
    · rw [← c]; show (_ :: _ :: _ :: nmCells r)[_]? = _; rw [show (i + 1) * 3 + 2 = i * 3 + 2 + 1 + 1 + 1 by omega]; rfl
theorem nmCells_eq : (nmCells nmRows).toArray = #[.string ⟨#[116, 114, 117]⟩, .int .i64 0, .int .i64 3, .string ⟨#[116, 114, 117, 101, 102, 97, 108, 115, 101]⟩, .int .i64 0, .int .i64 3, .string ⟨#[116, 114, 117, 101, 88]⟩, .int .i64 4, .int .i64 3, .string ⟨#[110, 117, 108, 108]⟩, .int .i64 0, .int .i64 3, .string ⟨#[84, 114, 117, 101]⟩, .int .i64 0, .int .i64 3, .string ⟨#[32, 9, 13, 10, 39]⟩, .int .i64 4, .int .i64 3, .string ⟨#[0]⟩, .int .i64 0, .int .i64 3, .string ⟨#[11]⟩, .int .i64 0, .int .i64 3, .string ⟨#[91, 32, 48, 49, 93]⟩, .int .i64 2, .int .i64 3, .string ⟨#[49, 44, 45]⟩, .int .i64 2, .int .i64 3, .string ⟨#[49, 116, 114, 117, 101]⟩, .int .i64 1, .int .i64 0, .string ⟨#[49, 101, 53]⟩, .int .i64 0, .int .i64 3, .string ⟨#[101, 53]⟩, .int .i64 0, .int .i64 3, .string ⟨#[43, 49]⟩, .int .i64 0, .int .i64 3, .string ⟨#[46]⟩, .int .i64 0, .int .i64 3, .string ⟨#[57, 50, 50, 51, 51, 55, 50, 48, 51, 54, 56, 53, 52, 55, 55, 53, 56, 48, 56]⟩, .int .i64 0, .int .i64 9, .string ⟨#[34, 97]⟩, .int .i64 0, .int .i64 4, .string ⟨#[44, 34, 255, 34]⟩, .int .i64 1, .int .i64 12, .string ⟨#[35]⟩, .int .i64 0, .int .i64 3, .string ⟨#[233]⟩, .int .i64 0, .int .i64 3] := rfl
/-! Blanks alone. -/
theorem rep_blank (n : Nat) : ∀ c ∈ List.replicate n (32 : UInt8), isBlank c = true := by
  intro c hc
  rw [(List.mem_replicate.1 hc).2]
  rfl
theorem all_blank (n : Nat) : allP (List.replicate n (32 : UInt8)) 0 = ([⟨11, n, n, 0, []⟩], 0, 0) := by
  have hb : blanks (List.replicate n (32 : UInt8)) = n := by
    have := blanks_all _ (rep_blank n) []
    rw [List.append_nil, List.length_replicate] at this
    rw [this]; rfl
  have ht : tokB (List.replicate n (32 : UInt8)) = ⟨11, 0, 0, [], 0⟩ := by
    unfold tokB
    rw [hb, List.drop_of_length_le (by simp)]
    rfl
  rw [allP_step, ht, hb]
  rw [if_neg (by simp), if_pos rfl]
  simp [Tok.at]
def blankS (n : Nat) : ByteArray := ⟨(List.replicate n (32 : UInt8)).toArray⟩
theorem blankS_size (n : Nat) : (blankS n).size = n := by
  show (List.replicate n (32 : UInt8)).toArray.size = n
  simp
theorem allR_blank : allR (blankS 65536) = ([⟨11, 65536, 65536, 0, []⟩], 0, 0) := by
  unfold allR
  rw [blankS_size, if_neg (by omega)]
  exact all_blank 65536
theorem allR_long : allR (blankS 65537) = ([], 0, 5) := by
  unfold allR
  rw [blankS_size, if_pos (by omega)]
/-- A block of blanks as a text. -/
theorem conv_blank {w : World} {b n cap : Nat} (h : ∀ j, j < n → w.cell? ⟨b, j, none⟩ = some (.int .u8 32)) :
    (convert 31 9 (.slice (some ⟨b, 0, none⟩) n cap)).run Tryd.prog w = .ok (.string (blankS n)) w := by
  have := run_convert_bytes_back (P := Tryd.prog) w _ _ _ ⟨b, 0, none⟩ cap (List.replicate n (32 : UInt8)) Tryd.underlying31 Tryd.underlying5 Tryd.underlying9 (fun j hj => by
    have hadd : (⟨b, 0, none⟩ : Addr).add j = ⟨b, j, none⟩ := by unfold Addr.add; split <;> simp_all
    rw [List.length_replicate] at hj
    rw [hadd, h j hj]
    simp)
  rw [List.length_replicate] at this
  exact this
theorem infoU8 : (Tryd.prog.info? 5).map (fun i => (i.zero, i.size, i.bytes)) = some (some (.int .u8 0), 1, 1) := by kernel_rfl
/-- A row of so many bytes, new. -/
theorem made_bytes (w : World) (n : Nat) (hn : n ≤ 1000000) : ∃ cs : Array Value, (Instr.makeSlice 31 (.int .i64 n) (.int .i64 n)).run Tryd.prog w = .ok (.slice (some ⟨w.heap.size, 0, none⟩) n n) (w.alloc (.cells cs 5)) ∧ cs.size = n ∧ ∀ j, j < n → cs[j]? = some (.int .u8 0) := by
  obtain ⟨i0, hi, hz0, hz1, hz2⟩ := info_parts infoU8
  refine ⟨madeCells (Value.int .u8 0).cells (n * i0.size), ?_, ?_, ?_⟩
  · have := run_makeSlice (P := Tryd.prog) w 31 5 i0 (.int .u8 0) Tryd.underlying31 hi hz0 .i64 .i64 (n : Int) (n : Int) (by omega) (by omega) (by rw [hz1]; simp; omega) (by rw [hz2]; omega) (by omega)
    simpa using this
  · rw [size_madeCells, hz1]; omega
  · intro j hj
    rw [hz1]
    unfold madeCells
    simp [hj, Value.cells]
    rw [Nat.mod_one]
    rfl
set_option maxRecDepth 100000 in
set_option maxHeartbeats 8000000 in
theorem lexNames_walk (w : World) (henv : NumEnv w) :
    Calls Tryd.prog 3 #[] w fun e w' => e = .returned (.bool true) ∧ Below w.heap.size w w' := by
  have hmk := fun W : World => made_bytes W 65537 (by omega)
  have HMK := Lib.hid hmk
  clear hmk
  go_enter Tryd.func3, Tryd.ntmps3
  go_wp2_with fail
  refine (awake7_any _ henv).mono ?_
  rintro e w1 ⟨rfl, hb1⟩
  have henv1 := henv.below hb1
  go_wp2_with fail
  refine (lexAll_any _ _ (by decide) henv1 _ namesA).mono ?_
  rintro e w2 ⟨v2, rfl, hm2, hb2⟩
  have hB2 := below_more hb1 hb2
  obtain ⟨g, cap, rfl, hg, hrow⟩ := hm2.row (by simp)
  have HROW : Hid (MkRow w2 g nmMarks) := hrow
  clear hm2 hrow hb1 hb2 henv1
  go_wp2_with fail
  go_loop [4] (fun i => ∃ k : Nat, k ≤ 11 ∧ i = .int .i64 k) (fun i => 11 - (intOf i).toNat)
  case atStart => exact ⟨0, by omega, rfl⟩
  case round =>
    obtain ⟨k, hk, rfl⟩ := hrel
    by_cases hk2 : k < 11
    · obtain ⟨m, hm, hmk⟩ := nmMarks_k k hk2
      have hc := (HROW.out k m hm).1
      rw [hmk] at hc
      clear hm hmk
      go_wp2_with fail
      exact ⟨⟨k + 1, by omega, by go_num⟩, by simp [intOf]; omega⟩
    · obtain rfl : k = 11 := by omega
      obtain ⟨-, k7a, k7z, -, -⟩ := HROW.out 7 _ rfl
      obtain ⟨-, -, -, k8n, -⟩ := HROW.out 8 _ rfl
      obtain ⟨-, -, -, -, k9t⟩ := HROW.out 9 _ rfl
      obtain ⟨-, k10a, k10z, -, -⟩ := HROW.out 10 _ rfl
      simp only [Nat.reduceMul, Nat.reduceAdd] at k7a k7z k8n k9t k10a k10z
      go_wp2_with fail
      clear k7a k7z k8n k9t k10a k10z HROW
      have hblk : BlkAt (w2.alloc (.cells #[.string ⟨#[116, 114, 117]⟩, .int .i64 0, .int .i64 3, .string ⟨#[116, 114, 117, 101, 102, 97, 108, 115, 101]⟩, .int .i64 0, .int .i64 3, .string ⟨#[116, 114, 117, 101, 88]⟩, .int .i64 4, .int .i64 3, .string ⟨#[110, 117, 108, 108]⟩, .int .i64 0, .int .i64 3, .string ⟨#[84, 114, 117, 101]⟩, .int .i64 0, .int .i64 3, .string ⟨#[32, 9, 13, 10, 39]⟩, .int .i64 4, .int .i64 3, .string ⟨#[0]⟩, .int .i64 0, .int .i64 3, .string ⟨#[11]⟩, .int .i64 0, .int .i64 3, .string ⟨#[91, 32, 48, 49, 93]⟩, .int .i64 2, .int .i64 3, .string ⟨#[49, 44, 45]⟩, .int .i64 2, .int .i64 3, .string ⟨#[49, 116, 114, 117, 101]⟩, .int .i64 1, .int .i64 0, .string ⟨#[49, 101, 53]⟩, .int .i64 0, .int .i64 3, .string ⟨#[101, 53]⟩, .int .i64 0, .int .i64 3, .string ⟨#[43, 49]⟩, .int .i64 0, .int .i64 3, .string ⟨#[46]⟩, .int .i64 0, .int .i64 3, .string ⟨#[57, 50, 50, 51, 51, 55, 50, 48, 51, 54, 56, 53, 52, 55, 55, 53, 56, 48, 56]⟩, .int .i64 0, .int .i64 9, .string ⟨#[34, 97]⟩, .int .i64 0, .int .i64 4, .string ⟨#[44, 34, 255, 34]⟩, .int .i64 1, .int .i64 12, .string ⟨#[35]⟩, .int .i64 0, .int .i64 3, .string ⟨#[233]⟩, .int .i64 0, .int .i64 3] 29)) w2.heap.size 29 (nmCells nmRows).toArray := by
        rw [nmCells_eq]
        exact heap_alloc_last w2 _
      have hB3 := bel_alloc hB2 (.cells #[.string ⟨#[116, 114, 117]⟩, .int .i64 0, .int .i64 3, .string ⟨#[116, 114, 117, 101, 102, 97, 108, 115, 101]⟩, .int .i64 0, .int .i64 3, .string ⟨#[116, 114, 117, 101, 88]⟩, .int .i64 4, .int .i64 3, .string ⟨#[110, 117, 108, 108]⟩, .int .i64 0, .int .i64 3, .string ⟨#[84, 114, 117, 101]⟩, .int .i64 0, .int .i64 3, .string ⟨#[32, 9, 13, 10, 39]⟩, .int .i64 4, .int .i64 3, .string ⟨#[0]⟩, .int .i64 0, .int .i64 3, .string ⟨#[11]⟩, .int .i64 0, .int .i64 3, .string ⟨#[91, 32, 48, 49, 93]⟩, .int .i64 2, .int .i64 3, .string ⟨#[49, 44, 45]⟩, .int .i64 2, .int .i64 3, .string ⟨#[49, 116, 114, 117, 101]⟩, .int .i64 1, .int .i64 0, .string ⟨#[49, 101, 53]⟩, .int .i64 0, .int .i64 3, .string ⟨#[101, 53]⟩, .int .i64 0, .int .i64 3, .string ⟨#[43, 49]⟩, .int .i64 0, .int .i64 3, .string ⟨#[46]⟩, .int .i64 0, .int .i64 3, .string ⟨#[57, 50, 50, 51, 51, 55, 50, 48, 51, 54, 56, 53, 52, 55, 55, 53, 56, 48, 56]⟩, .int .i64 0, .int .i64 9, .string ⟨#[34, 97]⟩, .int .i64 0, .int .i64 4, .string ⟨#[44, 34, 255, 34]⟩, .int .i64 1, .int .i64 12, .string ⟨#[35]⟩, .int .i64 0, .int .i64 3, .string ⟨#[233]⟩, .int .i64 0, .int .i64 3] 29)
      generalize w2.alloc (.cells #[.string ⟨#[116, 114, 117]⟩, .int .i64 0, .int .i64 3, .string ⟨#[116, 114, 117, 101, 102, 97, 108, 115, 101]⟩, .int .i64 0, .int .i64 3, .string ⟨#[116, 114, 117, 101, 88]⟩, .int .i64 4, .int .i64 3, .string ⟨#[110, 117, 108, 108]⟩, .int .i64 0, .int .i64 3, .string ⟨#[84, 114, 117, 101]⟩, .int .i64 0, .int .i64 3, .string ⟨#[32, 9, 13, 10, 39]⟩, .int .i64 4, .int .i64 3, .string ⟨#[0]⟩, .int .i64 0, .int .i64 3, .string ⟨#[11]⟩, .int .i64 0, .int .i64 3, .string ⟨#[91, 32, 48, 49, 93]⟩, .int .i64 2, .int .i64 3, .string ⟨#[49, 44, 45]⟩, .int .i64 2, .int .i64 3, .string ⟨#[49, 116, 114, 117, 101]⟩, .int .i64 1, .int .i64 0, .string ⟨#[49, 101, 53]⟩, .int .i64 0, .int .i64 3, .string ⟨#[101, 53]⟩, .int .i64 0, .int .i64 3, .string ⟨#[43, 49]⟩, .int .i64 0, .int .i64 3, .string ⟨#[46]⟩, .int .i64 0, .int .i64 3, .string ⟨#[57, 50, 50, 51, 51, 55, 50, 48, 51, 54, 56, 53, 52, 55, 55, 53, 56, 48, 56]⟩, .int .i64 0, .int .i64 9, .string ⟨#[34, 97]⟩, .int .i64 0, .int .i64 4, .string ⟨#[44, 34, 255, 34]⟩, .int .i64 1, .int .i64 12, .string ⟨#[35]⟩, .int .i64 0, .int .i64 3, .string ⟨#[233]⟩, .int .i64 0, .int .i64 3] 29) = w3 at hblk hB3 ⊢
      have HBLK := Lib.hid hblk
      generalize w2.heap.size = b at HBLK ⊢
      clear hblk hB2
      go_loopw [125] (fun i wr => ∃ k : Nat, k ≤ 20 ∧ i = .int .i64 k ∧ Below w3.heap.size w3 wr) (fun i _ => 20 - (intOf i).toNat)
      case atStart => exact ⟨0, by omega, rfl, Below.refl _ _⟩
      case round =>
        obtain ⟨k, hk, rfl, hBr⟩ := hrel
        have hBw := below_more hB3 hBr
        have henvr := henv.below hBw
        by_cases hk2 : k < 20
        · obtain ⟨x, hx⟩ : ∃ x, nmRows[k]? = some x := ⟨_, List.getElem?_eq_getElem (show k < nmRows.length from hk2)⟩
          have hxo := List.all_eq_true.1 nmRows_ok x (List.mem_of_getElem? hx)
          obtain ⟨c0, c1, c2⟩ := nmCells_get nmRows k x hx
          have hbk := HBLK.out.keep hBr
          have e0 : wr.cell? ⟨b, k * 3, none⟩ = some (.string x.1) := (hbk.cell _).trans (by simpa using c0)
          have e1 : wr.cell? ⟨b, k * 3 + 1, none⟩ = some (.int .i64 x.2.1) := (hbk.cell _).trans (by simpa using c1)
          have e2 : wr.cell? ⟨b, k * 3 + 2, none⟩ = some (.int .i64 x.2.2) := (hbk.cell _).trans (by simpa using c2)
          obtain ⟨s, a, er⟩ := x
          simp only [] at e0 e1 e2
          obtain ⟨ms, pl, er', hR⟩ : ∃ ms pl er', allR s = (ms, pl, er') := ⟨_, _, _, rfl⟩
          unfold nmRowB at hxo
          simp only [hR, Bool.and_eq_true, decide_eq_true_eq] at hxo
          obtain ⟨⟨hsz, rfl⟩, hxe⟩ := hxo
          have HR := Lib.hid hR
          clear hx c0 c1 c2 hR hbk
          by_cases hz : er' = 0
          · rw [if_pos hz] at hxe
            have hp0 : pl = 0 := by simpa using hxe
            subst hz hp0
            clear hxe
            go_wp2_with fail
            refine (lexAll_any _ _ (by omega) (henvr.below (bel_alloc (Below.refl _ _) _)) _ HR).mono ?_
            rintro e w5 ⟨v5, rfl, hm5, hb5⟩
            obtain ⟨a5, c5, rfl⟩ := hm5.slice
            have hsz5 : wr.heap.size < w5.heap.size := by have := hb5.size; simp at this; omega
            obtain ⟨hcc, hff⟩ := bcell hb5
            clear hm5
            go_wp2_with fail
            exact ⟨⟨k + 1, by omega, by go_num, below_more (bel_alloc hBr _) hb5⟩, by simp [intOf]; omega⟩
          · rw [if_neg hz] at hxe
            simp only [Bool.and_eq_true, decide_eq_true_eq, List.isEmpty_iff] at hxe
            obtain ⟨rfl, rfl⟩ := hxe
            have z1 : (er' != 0) = true := by rw [bne_iff_ne]; exact hz
            have z2 : (er' == 0) = false := beq_eq_false_iff_ne.2 hz
            clear hz
            go_wp2_with fail
            refine (lexAll_any _ _ (by omega) (henvr.below (bel_alloc (Below.refl _ _) _)) _ HR).mono ?_
            rintro e w5 ⟨v5, rfl, hm5, hb5⟩
            obtain ⟨a5, c5, rfl⟩ := hm5.slice
            have hsz5 : wr.heap.size < w5.heap.size := by have := hb5.size; simp at this; omega
            obtain ⟨hcc, hff⟩ := bcell hb5
            clear hm5
            go_wp2_with fail
            exact ⟨⟨k + 1, by omega, by go_num, below_more (bel_alloc hBr _) hb5⟩, by simp [intOf]; omega⟩
        · obtain rfl : k = 20 := by omega
          clear HBLK hBr hB3
          obtain ⟨cs, hrun, hcs, hcz⟩ := HMK.out wr
          obtain ⟨N, hN⟩ : ∃ N : Nat, N = 65537 := ⟨_, rfl⟩
          have hrun' : (Instr.makeSlice 31 (.int .i64 65537) (.int .i64 65537)).run Tryd.prog wr = .ok (.slice (some ⟨wr.heap.size, 0, none⟩) N N) (wr.alloc (.cells cs 5)) := by rw [hN]; exact hrun
          have hN1 : (65536 : Int) ≤ (N : Int) := by omega
          have hN2 : (N : Int) ≤ 100000 := by omega
          rw [← hN] at hcs hcz
          have HN := Lib.hid hN
          clear hN
          have HCS := Lib.hid hcs
          have HCZ := Lib.hid hcz
          clear hrun hcs hcz HMK
          go_wp2_with fail
          have hblk : BlkAt (wr.alloc (.cells cs 5)) wr.heap.size 5 cs := heap_alloc_last wr _
          have hB4 := bel_alloc hBw (.cells cs 5)
          have hsz4 : w.heap.size ≤ wr.heap.size := hBw.size
          generalize wr.alloc (.cells cs 5) = w4 at hblk hB4 ⊢
          generalize wr.heap.size = b4 at hblk hsz4 ⊢
          have HBLK := Lib.hid hblk
          clear hblk hBw henvr hrun' hk hk2
          go_loopw [11] (fun i wr => ∃ (k : Nat) (cs : Array Value), k ≤ N ∧ i = .int .i64 k ∧ Hid (BlkAt wr b4 5 cs ∧ cs.size = N ∧ (∀ j, j < k → cs[j]? = some (.int .u8 32)) ∧ (∀ j, j < N → ∃ x, cs[j]? = some (.int .u8 x))) ∧ Below w.heap.size w wr) (fun i _ => N - (intOf i).toNat)
          case atStart => exact ⟨0, cs, by omega, rfl, ⟨HBLK.out, HCS.out, fun j hj => by omega, fun j hj => ⟨0, HCZ.out j hj⟩⟩, hB4⟩
          case round =>
            obtain ⟨k, cs', hk, rfl, HI, hBr⟩ := hrel
            clear HBLK HCS HCZ hB4
            by_cases hk2 : k < N
            · obtain ⟨h1, h2, h3, h4⟩ := HI.out
              obtain ⟨x, hx⟩ := h4 k hk2
              have hc := (h1.cell k).trans hx
              have hf := h1.free k
              have hnew : Hid (BlkAt (wr.setCell ⟨b4, k, none⟩ (.int .u8 32)) b4 5 (cs'.setIfInBounds k (.int .u8 32)) ∧ (cs'.setIfInBounds k (.int .u8 32)).size = N ∧ (∀ j, j < k + 1 → (cs'.setIfInBounds k (.int .u8 32))[j]? = some (.int .u8 32)) ∧ (∀ j, j < N → ∃ x, (cs'.setIfInBounds k (.int .u8 32))[j]? = some (.int .u8 x))) := by
                refine ⟨h1.set _ _, by simp [h2], fun j hj => ?_, fun j hj => ?_⟩
                · by_cases e : j = k
                  · subst e; rw [Array.getElem?_setIfInBounds_self_of_lt (by omega)]
                  · rw [Array.getElem?_setIfInBounds_ne (by omega)]; exact h3 j (by omega)
                · by_cases e : j = k
                  · subst e; exact ⟨32, by rw [Array.getElem?_setIfInBounds_self_of_lt (by omega)]⟩
                  · rw [Array.getElem?_setIfInBounds_ne (by omega)]; exact h4 j hj
              clear h1 h2 h3 h4 hx HI
              go_wp2_with fail
              exact ⟨⟨k + 1, _, by omega, by go_num, hnew, hBr.setCell (p := ⟨b4, k, none⟩) hsz4 _⟩, by simp [intOf]; omega⟩
            · obtain rfl : k = N := by omega
              have hall : ∀ j, j < k → wr.cell? ⟨b4, j, none⟩ = some (.int .u8 32) := fun j hj => (HI.out.1.cell j).trans (HI.out.2.2.1 j hj)
              have hlt4 : b4 < wr.heap.size := HI.out.1.lt
              have HALL := Lib.hid hall
              have hcv : (convert 31 9 (.slice (some ⟨b4, 0, none⟩) 65536 k)).run Tryd.prog wr = .ok (.string (blankS 65536)) wr := conv_blank fun j hj => hall j (by have := HN.out; omega)
              clear HI hall hk hk2
              generalize hbs : blankS 65536 = bs at hcv
              have hbsz : bs.size = 65536 := by rw [← hbs]; exact blankS_size _
              have HBS : Hid (allR bs = ([⟨11, 65536, 65536, 0, []⟩], 0, 0)) := by rw [← hbs]; exact allR_blank
              clear hbs
              have HSZ := Lib.hid hbsz
              clear hbsz
              have henvr := henv.below hBr
              go_wp2_with fail
              refine (lexAll_any bs _ (by rw [HSZ.out]; omega) henvr _ HBS).mono ?_
              rintro e w5 ⟨v5, rfl, hm5, hb5⟩
              obtain ⟨g5, c5, rfl, hg5, hrow5⟩ := hm5.row (by simp)
              have hB5 := below_more hBr hb5
              have henv5 := henv.below hB5
              have hcv2 : (convert 31 9 (.slice (some ⟨b4, 0, none⟩) k k)).run Tryd.prog w5 = .ok (.string (blankS k)) w5 := conv_blank fun j hj => by rw [(bcell hb5).1 _ _ hlt4]; exact HALL.out j hj
              rw [HN.out] at hcv2
              generalize hbs : blankS 65537 = bt at hcv2
              rw [← HN.out] at hcv2
              have hbsz : bt.size = 65537 := by rw [← hbs]; exact blankS_size _
              have HBT : Hid (allR bt = ([], 0, 5)) := by rw [← hbs]; exact allR_long
              clear hbs
              have HSZT := Lib.hid hbsz
              clear hbsz hcv HALL hm5 henvr
              go_wp2_with fail
              refine (lexAll_any bt _ (by rw [HSZT.out]; omega) henv5 _ HBT).mono ?_
              rintro e w6 ⟨v6, rfl, hm6, hb6⟩
              obtain ⟨a6, c6, rfl⟩ := hm6.slice
              have hrow6 := hrow5.keep hb6
              have hB6 := below_more hB5 hb6
              have henv6 := henv.below hB6
              clear hm6 hcv2 hrow5 hb6 hb5 henv5 hB5
              go_wp2_with fail
              refine (lexNext_out ⟨#[97]⟩ 2 _ (Or.inr (by decide))).mono ?_
              rintro e w7 ⟨rfl, hb7⟩
              have hrow7 := (hrow6.keep hb7).keep (bel_alloc (Below.refl _ _) (.cells #[.int .u8 0, .int .i64 0, .int .i64 0, .int .i64 0, .string ⟨#[]⟩] 28))
              have hB7 := bel_alloc (below_more hB6 hb7) (.cells #[.int .u8 0, .int .i64 0, .int .i64 0, .int .i64 0, .string ⟨#[]⟩] 28)
              clear hrow6 hb7 hB6 henv6
              go_wp2_with fail
              refine (lexNext_out ⟨#[97]⟩ (-1) _ (Or.inl (by decide))).mono ?_
              rintro e w8 ⟨rfl, hb8⟩
              have hrow8 := (hrow7.keep hb8).keep (bel_alloc (Below.refl _ _) (.cells #[.int .u8 0, .int .i64 0, .int .i64 0, .int .i64 0, .string ⟨#[]⟩] 28))
              have hB8 := bel_alloc (below_more hB7 hb8) (.cells #[.int .u8 0, .int .i64 0, .int .i64 0, .int .i64 0, .string ⟨#[]⟩] 28)
              have henv8 := henv.below hB8
              clear hrow7 hb8 hB7
              go_wp2_with fail
              refine (lexNext_in ⟨#[97]⟩ 1 _ (by decide) (by decide) henv8 11 1 1 0 ⟨#[]⟩ 0 namesN).mono ?_
              rintro e w9 ⟨rfl, hb9⟩
              have hrow9 := (hrow8.keep hb9).keep (bel_alloc (Below.refl _ _) (.cells #[.int .u8 11, .int .i64 1, .int .i64 1, .int .i64 0, .string ⟨#[]⟩] 28))
              have hB9 := bel_alloc (below_more hB8 hb9) (.cells #[.int .u8 11, .int .i64 1, .int .i64 1, .int .i64 0, .string ⟨#[]⟩] 28)
              have r0 := (hrow9 0 _ rfl).2.1
              simp only [Nat.reduceMul, Nat.zero_add] at r0
              clear hrow8 hrow9 hb9 hB8 henv8
              go_wp2_with fail
              go_ret
              exact ⟨rfl, hB9⟩
end Go.Proofs.YtkflnbmbkilicaaDoor
