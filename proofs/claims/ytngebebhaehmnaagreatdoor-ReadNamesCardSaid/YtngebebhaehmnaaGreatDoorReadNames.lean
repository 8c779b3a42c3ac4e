/-
  The walk of the law ReadNames: the examples, one by one.
-/
import Derived.Test.YtngebebhaehmnaaGreatDoorReadAwake
import Derived.Test.YtngebebhaehmnaaGreatDoorReadZeros
import Derived.Test.YtngebebhaehmnaaGreatDoorReadBytes
namespace Go.Proofs.YtngebebhaehmnaaGreatDoor
open Go.RowKit

abbrev NmRow := ByteArray × Nat × Int
def nmA : List NmRow := [(⟨#[91, 49, 44, 93]⟩, 3, 3), (⟨#[91, 49, 32, 50, 93]⟩, 3, 3), (⟨#[91, 49]⟩, 2, 4), (⟨#[123, 34, 97, 34, 58, 49, 44, 34, 97, 34, 58, 50, 125]⟩, 7, 7), (⟨#[123, 34, 97, 34, 32, 49, 125]⟩, 5, 3), (⟨#[49, 32, 50]⟩, 2, 11), (⟨#[49, 32, 120]⟩, 2, 3), (⟨#[]⟩, 0, 4), (⟨#[32, 32]⟩, 2, 4), (⟨#[91]⟩, 1, 4), (⟨#[91, 44, 49, 93]⟩, 1, 3), (⟨#[91, 49, 44, 44, 50, 93]⟩, 3, 3), (⟨#[123]⟩, 1, 4), (⟨#[123, 49, 58, 50, 125]⟩, 1, 3), (⟨#[123, 34, 97, 34]⟩, 4, 4), (⟨#[123, 34, 97, 34, 58, 125]⟩, 5, 3), (⟨#[123, 34, 97, 34, 58, 49]⟩, 6, 4), (⟨#[123, 34, 97, 34, 58, 49, 44, 125]⟩, 7, 3), (⟨#[123, 44, 125]⟩, 1, 3), (⟨#[93]⟩, 0, 3), (⟨#[58]⟩, 0, 3), (⟨#[123, 34, 97, 34, 58, 49, 93]⟩, 6, 3), (⟨#[91, 49, 125]⟩, 2, 3), (⟨#[91, 34, 97, 34, 58, 49, 93]⟩, 4, 3), (⟨#[110, 117, 108, 108]⟩, 0, 3), (⟨#[91, 49, 46, 53, 93]⟩, 1, 3), (⟨#[91, 57, 50, 50, 51, 51, 55, 50, 48, 51, 54, 56, 53, 52, 55, 55, 53, 56, 48, 56, 93]⟩, 1, 9), (⟨#[91, 34, 97, 93]⟩, 1, 4), (⟨#[91, 34, 255, 34, 93]⟩, 1, 12), (⟨#[123, 34, 97, 34, 58, 91, 49, 44, 123, 34, 97, 34, 58, 50, 44, 34, 98, 34, 58, 51, 44, 34, 98, 34]⟩, 21, 7), (⟨#[49, 44]⟩, 1, 11), (⟨#[123, 125, 123, 125]⟩, 2, 11)]
def nmB : List NmRow := [(⟨#[116, 114, 117, 101, 32, 102, 97, 108, 115, 101]⟩, 5, 11), (⟨#[91, 116, 114, 117, 101, 102, 97, 108, 115, 101, 93]⟩, 1, 3)]
def NmBad (x : NmRow) : Prop := x.1.size ≤ 100000 ∧ readV x.1.data.toList = .bad x.2.1 x.2.2
def nmTest (x : NmRow) : Bool := decide (x.1.size ≤ 100000) && match readV x.1.data.toList with | .bad p e => decide (p = x.2.1) && decide (e = x.2.2) | .ok _ _ _ => false
theorem nmTest_bad {x : NmRow} (h : nmTest x = true) : NmBad x := by
  unfold nmTest at h
  rw [Bool.and_eq_true, decide_eq_true_eq] at h
  obtain ⟨h1, h2⟩ := h
  refine ⟨h1, ?_⟩
  cases hr : readV x.1.data.toList with
  | bad p e =>
    rw [hr] at h2
    simp only [Bool.and_eq_true, decide_eq_true_eq] at h2
    rw [h2.1, h2.2]
  | ok V ms c => rw [hr] at h2; simp at h2
theorem nmA_ok : nmA.all nmTest = true := by kernel_rfl
theorem nmB_ok : nmB.all nmTest = true := by kernel_rfl
def nmRows (t1 t2 t3 t4 t5 : ByteArray) : List NmRow := nmA ++ [(t1, 12, 8), (t2, 12, 4), (t3, 16383, 5), (t4, 0, 5), (t5, 65536, 4)] ++ nmB
theorem nmRows_len (t1 t2 t3 t4 t5 : ByteArray) : (nmRows t1 t2 t3 t4 t5).length = 39 := rfl
theorem nmRows_ok {t1 t2 t3 t4 t5 : ByteArray} (h1 : NmBad (t1, 12, 8)) (h2 : NmBad (t2, 12, 4)) (h3 : NmBad (t3, 16383, 5)) (h4 : NmBad (t4, 0, 5)) (h5 : NmBad (t5, 65536, 4)) : ∀ x ∈ nmRows t1 t2 t3 t4 t5, NmBad x := fun x hx => by
  unfold nmRows at hx
  rw [List.mem_append, List.mem_append] at hx
  rcases hx with (hx | hx) | hx
  · exact nmTest_bad (List.all_eq_true.1 nmA_ok x hx)
  · simp only [List.mem_cons, List.not_mem_nil, or_false] at hx
    rcases hx with rfl | rfl | rfl | rfl | rfl
    · exact h1
    · exact h2
    · exact h3
    · exact h4
    · exact h5
  · exact nmTest_bad (List.all_eq_true.1 nmB_ok x hx)
def nmCells (l : List NmRow) : List Value := l.flatMap fun x => [.string x.1, .int .i64 x.2.1, .int .i64 x.2.2]
theorem nmCells_get : ∀ (l : List NmRow) (i : Nat) (x : NmRow), l[i]? = some x → (nmCells l)[i * 3]? = some (.string x.1) ∧ (nmCells l)[i * 3 + 1]? = some (.int .i64 x.2.1) ∧ (nmCells l)[i * 3 + 2]? = some (.int .i64 x.2.2)
  | [], i, x, h => by simp at h
  | y :: r, 0, x, h => by
    simp at h; subst h
    exact ⟨rfl, rfl, rfl⟩
  | y :: r, i + 1, x, h => by
    obtain ⟨a, b, c⟩ := nmCells_get r i x (by simpa using h)
    refine ⟨?_, ?_, ?_⟩
    · rw [← a]; show (_ :: _ :: _ :: nmCells r)[_]? = _; rw [show (i + 1) * 3 = i * 3 + 1 + 1 + 1 by omega]; rfl
    · rw [← b]; show (_ :: _ :: _ :: nmCells r)[_]? = _; rw [show (i + 1) * 3 + 1 = i * 3 + 1 + 1 + 1 + 1 by omega]; rfl
    · rw [← c]; show (_ :: _ :: _ :: nmCells r)[_]? = _; rw [show (i + 1) * 3 + 2 = i * 3 + 2 + 1 + 1 + 1 by omega]; rfl
set_option maxRecDepth 100000 in
theorem nmCells_eq (t1 t2 t3 t4 t5 : ByteArray) : (nmCells (nmRows t1 t2 t3 t4 t5)).toArray = #[.string ⟨#[91, 49, 44, 93]⟩, .int .i64 3, .int .i64 3, .string ⟨#[91, 49, 32, 50, 93]⟩, .int .i64 3, .int .i64 3, .string ⟨#[91, 49]⟩, .int .i64 2, .int .i64 4, .string ⟨#[123, 34, 97, 34, 58, 49, 44, 34, 97, 34, 58, 50, 125]⟩, .int .i64 7, .int .i64 7, .string ⟨#[123, 34, 97, 34, 32, 49, 125]⟩, .int .i64 5, .int .i64 3, .string ⟨#[49, 32, 50]⟩, .int .i64 2, .int .i64 11, .string ⟨#[49, 32, 120]⟩, .int .i64 2, .int .i64 3, .string ⟨#[]⟩, .int .i64 0, .int .i64 4, .string ⟨#[32, 32]⟩, .int .i64 2, .int .i64 4, .string ⟨#[91]⟩, .int .i64 1, .int .i64 4, .string ⟨#[91, 44, 49, 93]⟩, .int .i64 1, .int .i64 3, .string ⟨#[91, 49, 44, 44, 50, 93]⟩, .int .i64 3, .int .i64 3, .string ⟨#[123]⟩, .int .i64 1, .int .i64 4, .string ⟨#[123, 49, 58, 50, 125]⟩, .int .i64 1, .int .i64 3, .string ⟨#[123, 34, 97, 34]⟩, .int .i64 4, .int .i64 4, .string ⟨#[123, 34, 97, 34, 58, 125]⟩, .int .i64 5, .int .i64 3, .string ⟨#[123, 34, 97, 34, 58, 49]⟩, .int .i64 6, .int .i64 4, .string ⟨#[123, 34, 97, 34, 58, 49, 44, 125]⟩, .int .i64 7, .int .i64 3, .string ⟨#[123, 44, 125]⟩, .int .i64 1, .int .i64 3, .string ⟨#[93]⟩, .int .i64 0, .int .i64 3, .string ⟨#[58]⟩, .int .i64 0, .int .i64 3, .string ⟨#[123, 34, 97, 34, 58, 49, 93]⟩, .int .i64 6, .int .i64 3, .string ⟨#[91, 49, 125]⟩, .int .i64 2, .int .i64 3, .string ⟨#[91, 34, 97, 34, 58, 49, 93]⟩, .int .i64 4, .int .i64 3, .string ⟨#[110, 117, 108, 108]⟩, .int .i64 0, .int .i64 3, .string ⟨#[91, 49, 46, 53, 93]⟩, .int .i64 1, .int .i64 3, .string ⟨#[91, 57, 50, 50, 51, 51, 55, 50, 48, 51, 54, 56, 53, 52, 55, 55, 53, 56, 48, 56, 93]⟩, .int .i64 1, .int .i64 9, .string ⟨#[91, 34, 97, 93]⟩, .int .i64 1, .int .i64 4, .string ⟨#[91, 34, 255, 34, 93]⟩, .int .i64 1, .int .i64 12, .string ⟨#[123, 34, 97, 34, 58, 91, 49, 44, 123, 34, 97, 34, 58, 50, 44, 34, 98, 34, 58, 51, 44, 34, 98, 34]⟩, .int .i64 21, .int .i64 7, .string ⟨#[49, 44]⟩, .int .i64 1, .int .i64 11, .string ⟨#[123, 125, 123, 125]⟩, .int .i64 2, .int .i64 11, .string t1, .int .i64 12, .int .i64 8, .string t2, .int .i64 12, .int .i64 4, .string t3, .int .i64 16383, .int .i64 5, .string t4, .int .i64 0, .int .i64 5, .string t5, .int .i64 65536, .int .i64 4, .string ⟨#[116, 114, 117, 101, 32, 102, 97, 108, 115, 101]⟩, .int .i64 5, .int .i64 11, .string ⟨#[91, 116, 114, 117, 101, 102, 97, 108, 115, 101, 93]⟩, .int .i64 1, .int .i64 3] := rfl
theorem blk_num {w : World} {n n2 : Nat} {T : TypeId} {cs : Array Value} (h : BlkAt w n T cs) (e : n = n2) : BlkAt w n2 T cs := by rw [← e]; exact h
theorem bytes_list (n : Nat) (c : UInt8) : (⟨(List.replicate n c).toArray⟩ : ByteArray).data.toList = List.replicate n c := rfl
theorem nm1 : NmBad (⟨(List.replicate 13 91).toArray⟩, 12, 8) := nmTest_bad (by kernel_rfl)
theorem nm2 : NmBad (⟨(List.replicate 12 91).toArray⟩, 12, 4) := nmTest_bad (by kernel_rfl)
theorem nm3 : NmBad (⟨(zerosL 8192 ++ [93]).toArray⟩, 16383, 5) := by
  have h1 : (⟨(zerosL 8192 ++ [93]).toArray⟩ : ByteArray).size = 16385 := by
    rw [bytes_size, List.length_append, zerosL_len 8192 (by omega)]
    rfl
  exact ⟨by show ByteArray.size _ ≤ _; rw [h1]; omega, read_zeros_long⟩
theorem nm4 : NmBad (⟨(List.replicate 65537 32).toArray⟩, 0, 5) := ⟨by show ByteArray.size _ ≤ _; rw [bytes_size, List.length_replicate]; omega, read_long 65537 (by omega)⟩
theorem nm5 : NmBad (⟨(List.replicate 65536 32).toArray⟩, 65536, 4) := ⟨by show ByteArray.size _ ≤ _; rw [bytes_size, List.length_replicate]; omega, read_blanks 65536 (by omega)⟩
def deepV : JV := .mk 4 0 ⟨#[]⟩ [] [.mk 4 0 ⟨#[]⟩ [] [.mk 4 0 ⟨#[]⟩ [] [.mk 4 0 ⟨#[]⟩ [] [.mk 4 0 ⟨#[]⟩ [] [.mk 4 0 ⟨#[]⟩ [] [.mk 4 0 ⟨#[]⟩ [] [.mk 4 0 ⟨#[]⟩ [] [.mk 4 0 ⟨#[]⟩ [] [.mk 4 0 ⟨#[]⟩ [] [.mk 4 0 ⟨#[]⟩ [] [.mk 4 0 ⟨#[]⟩ [] []]]]]]]]]]]]
theorem read_deep : readV (⟨(List.replicate 12 91).toArray⟩ ++ ⟨(List.replicate 12 93).toArray⟩ : ByteArray).data.toList = .ok deepV [] 12 := by kernel_rfl
def wantV : JV := .mk 5 0 ⟨#[]⟩ [⟨#[]⟩, ⟨#[97]⟩, ⟨#[98]⟩] [.mk 2 (-9223372036854775808) ⟨#[]⟩ [] [], .mk 5 0 ⟨#[]⟩ [⟨#[98]⟩] [.mk 1 0 ⟨#[]⟩ [] []], .mk 4 0 ⟨#[]⟩ [] []]
theorem read_want : readV (⟨#[32, 123, 34, 98, 34, 32, 58, 32, 91, 32, 93, 32, 44, 32, 34, 34, 32, 58, 32, 45, 57, 50, 50, 51, 51, 55, 50, 48, 51, 54, 56, 53, 52, 55, 55, 53, 56, 48, 56, 32, 44, 32, 34, 97, 34, 58, 123, 34, 98, 34, 58, 102, 97, 108, 115, 101, 125, 125, 13, 10]⟩ : ByteArray).data.toList = .ok wantV [] 5 := by kernel_rfl
def noV9 : JV := .mk 0 0 ⟨#[]⟩ [] []
theorem valAt_noV9 (w : World) : ValAt w noV9 (.agg #[.int .u8 0, .int .i64 0, .string ⟨#[]⟩, .slice none 0 0, .slice none 0 0]) := valAt_leaf w 0 0 ⟨#[]⟩ (by decide) (by decide) (by decide) (by decide) (by decide)
theorem vc_parts {w : World} {V : JV} {xk xn : Int} {xt : ByteArray} {xa xb : Option Addr} {xl xc xm xe : Nat} (h : ValAt w V (VC.val ⟨xk, xn, xt, xa, xl, xc, xb, xm, xe⟩)) : xk = V.k ∧ xm = V.items.length := by
  obtain ⟨vn, vi, e, -, -, -, -, -, -, hi⟩ := valAt_iff.1 h
  obtain ⟨a, c, rfl, -⟩ := hi.parts
  simp only [VC.val, Value.agg.injEq, Array.mk.injEq, List.cons.injEq, Value.int.injEq, Value.slice.injEq, true_and, and_true] at e
  exact ⟨e.1, e.2.2.2.2.2.1⟩
set_option maxRecDepth 100000 in
set_option maxHeartbeats 16000000 in
theorem readNames_walk (w : World) (henv : NumEnv w) :
    Calls Tryz.prog 4 #[] w fun e w' => e = .returned (.bool true) ∧ Below w.heap.size w w' := by
  obtain ⟨t1, ht1⟩ : ∃ t, t = (⟨(List.replicate 13 91).toArray⟩ : ByteArray) := ⟨_, rfl⟩
  obtain ⟨t2, ht2⟩ : ∃ t, t = (⟨(List.replicate 12 91).toArray⟩ : ByteArray) := ⟨_, rfl⟩
  obtain ⟨t3, ht3⟩ : ∃ t, t = (⟨(zerosL 8192 ++ [93]).toArray⟩ : ByteArray) := ⟨_, rfl⟩
  obtain ⟨t4, ht4⟩ : ∃ t, t = (⟨(List.replicate 65537 32).toArray⟩ : ByteArray) := ⟨_, rfl⟩
  obtain ⟨t5, ht5⟩ : ∃ t, t = (⟨(List.replicate 65536 32).toArray⟩ : ByteArray) := ⟨_, rfl⟩
  obtain ⟨t6, ht6⟩ : ∃ t, t = (⟨(zerosL 8191 ++ [93]).toArray⟩ : ByteArray) := ⟨_, rfl⟩
  obtain ⟨t7, ht7⟩ : ∃ t, t = (⟨(List.replicate 12 93).toArray⟩ : ByteArray) := ⟨_, rfl⟩
  have K1 := Lib.hid (fun W => bytes9_any 91 13 W (by omega))
  have K2 := Lib.hid (fun W => bytes9_any 91 12 W (by omega))
  have K3 := Lib.hid (fun W => zeros_any 8192 W (by omega) (by omega))
  have K4 := Lib.hid (fun W => bytes9_any 32 65537 W (by omega))
  have K5 := Lib.hid (fun W => bytes9_any 32 65536 W (by omega))
  have K6 := Lib.hid (fun W => zeros_any 8191 W (by omega) (by omega))
  have K7 := Lib.hid (fun W => bytes9_any 93 12 W (by omega))
  have hrows := nmRows_ok nm1 nm2 nm3 nm4 nm5
  have hdeep := read_deep
  obtain ⟨ms6, c6, hz6⟩ := read_zeros 8191 (by omega) (by omega)
  have hz6' : readV t6.data.toList = .ok (listV (List.replicate 8191 zeroN)) ms6 c6 := by rw [ht6]; exact hz6
  have hs6 : t6.size ≤ 100000 := by rw [ht6, bytes_size, List.length_append, zerosL_len 8191 (by omega), List.length_singleton]; omega
  have hs27 : t2.size = 12 ∧ t7.size = 12 := by rw [ht2, ht7]; exact ⟨rfl, rfl⟩
  rw [← ht1] at K1
  rw [← ht2] at K2
  rw [← ht3] at K3
  rw [← ht4] at K4
  rw [← ht5] at K5
  rw [← ht6] at K6
  rw [← ht7] at K7
  rw [← ht1, ← ht2, ← ht3, ← ht4, ← ht5] at hrows
  rw [← ht2, ← ht7] at hdeep
  rw [show (((91 : UInt8).toNat : Nat) : Int) = 91 from rfl, show ((13 : Nat) : Int) = 13 from rfl] at K1
  rw [show (((91 : UInt8).toNat : Nat) : Int) = 91 from rfl, show ((12 : Nat) : Int) = 12 from rfl] at K2
  rw [show ((8192 : Nat) : Int) = 8192 from rfl] at K3
  rw [show (((32 : UInt8).toNat : Nat) : Int) = 32 from rfl, show ((65537 : Nat) : Int) = 65537 from rfl] at K4
  rw [show (((32 : UInt8).toNat : Nat) : Int) = 32 from rfl, show ((65536 : Nat) : Int) = 65536 from rfl] at K5
  rw [show ((8191 : Nat) : Int) = 8191 from rfl] at K6
  rw [show (((93 : UInt8).toNat : Nat) : Int) = 93 from rfl, show ((12 : Nat) : Int) = 12 from rfl] at K7
  have HROWS := Lib.hid hrows
  have HD := Lib.hid hdeep
  have HZ6 := Lib.hid hz6'
  have HR6 := Lib.hid (fun W hE => read_any t6 W (by omega) hE _ (Lib.hid HZ6.out))
  have HR7 := Lib.hid (fun W hE => read_any (t2 ++ t7) W (by rw [ByteArray.size_append]; omega) hE _ (Lib.hid HD.out))
  have HR8 := Lib.hid (fun W hE => read_any (⟨#[32, 123, 34, 98, 34, 32, 58, 32, 91, 32, 93, 32, 44, 32, 34, 34, 32, 58, 32, 45, 57, 50, 50, 51, 51, 55, 50, 48, 51, 54, 56, 53, 52, 55, 55, 53, 56, 48, 56, 32, 44, 32, 34, 97, 34, 58, 123, 34, 98, 34, 58, 102, 97, 108, 115, 101, 125, 125, 13, 10]⟩ : ByteArray) W (by decide) hE _ (Lib.hid read_want))
  clear ht1 ht2 ht3 ht4 ht5 ht6 ht7 hrows hdeep hz6 hz6'
  go_enter Tryz.func4, Tryz.ntmps4
  go_wp2_with fail
  refine (awake9_any _ henv).mono ?_
  rintro e w1 ⟨rfl, hb1⟩
  go_wp2_with fail
  refine (K1.out _).mono ?_
  rintro e w2 ⟨rfl, hb2⟩
  have hB2 := below_more hb1 hb2
  go_wp2_with fail
  refine (K2.out _).mono ?_
  rintro e w3 ⟨rfl, hb3⟩
  have hB3 := below_more hB2 hb3
  go_wp2_with fail
  refine (K3.out _).mono ?_
  rintro e w4 ⟨rfl, hb4⟩
  have hB4 := below_more hB3 hb4
  go_wp2_with fail
  refine (K4.out _).mono ?_
  rintro e w5 ⟨rfl, hb5⟩
  have hB5 := below_more hB4 hb5
  go_wp2_with fail
  refine (K5.out _).mono ?_
  rintro e w6 ⟨rfl, hb6⟩
  have hB6 := below_more hB5 hb6
  clear hb1 hb2 hb3 hb4 hb5 hb6 hB2 hB3 hB4 hB5
  go_wp2_with fail
  have hblk : BlkAt (w6.alloc (.cells #[.string ⟨#[91, 49, 44, 93]⟩, .int .i64 3, .int .i64 3, .string ⟨#[91, 49, 32, 50, 93]⟩, .int .i64 3, .int .i64 3, .string ⟨#[91, 49]⟩, .int .i64 2, .int .i64 4, .string ⟨#[123, 34, 97, 34, 58, 49, 44, 34, 97, 34, 58, 50, 125]⟩, .int .i64 7, .int .i64 7, .string ⟨#[123, 34, 97, 34, 32, 49, 125]⟩, .int .i64 5, .int .i64 3, .string ⟨#[49, 32, 50]⟩, .int .i64 2, .int .i64 11, .string ⟨#[49, 32, 120]⟩, .int .i64 2, .int .i64 3, .string ⟨#[]⟩, .int .i64 0, .int .i64 4, .string ⟨#[32, 32]⟩, .int .i64 2, .int .i64 4, .string ⟨#[91]⟩, .int .i64 1, .int .i64 4, .string ⟨#[91, 44, 49, 93]⟩, .int .i64 1, .int .i64 3, .string ⟨#[91, 49, 44, 44, 50, 93]⟩, .int .i64 3, .int .i64 3, .string ⟨#[123]⟩, .int .i64 1, .int .i64 4, .string ⟨#[123, 49, 58, 50, 125]⟩, .int .i64 1, .int .i64 3, .string ⟨#[123, 34, 97, 34]⟩, .int .i64 4, .int .i64 4, .string ⟨#[123, 34, 97, 34, 58, 125]⟩, .int .i64 5, .int .i64 3, .string ⟨#[123, 34, 97, 34, 58, 49]⟩, .int .i64 6, .int .i64 4, .string ⟨#[123, 34, 97, 34, 58, 49, 44, 125]⟩, .int .i64 7, .int .i64 3, .string ⟨#[123, 44, 125]⟩, .int .i64 1, .int .i64 3, .string ⟨#[93]⟩, .int .i64 0, .int .i64 3, .string ⟨#[58]⟩, .int .i64 0, .int .i64 3, .string ⟨#[123, 34, 97, 34, 58, 49, 93]⟩, .int .i64 6, .int .i64 3, .string ⟨#[91, 49, 125]⟩, .int .i64 2, .int .i64 3, .string ⟨#[91, 34, 97, 34, 58, 49, 93]⟩, .int .i64 4, .int .i64 3, .string ⟨#[110, 117, 108, 108]⟩, .int .i64 0, .int .i64 3, .string ⟨#[91, 49, 46, 53, 93]⟩, .int .i64 1, .int .i64 3, .string ⟨#[91, 57, 50, 50, 51, 51, 55, 50, 48, 51, 54, 56, 53, 52, 55, 55, 53, 56, 48, 56, 93]⟩, .int .i64 1, .int .i64 9, .string ⟨#[91, 34, 97, 93]⟩, .int .i64 1, .int .i64 4, .string ⟨#[91, 34, 255, 34, 93]⟩, .int .i64 1, .int .i64 12, .string ⟨#[123, 34, 97, 34, 58, 91, 49, 44, 123, 34, 97, 34, 58, 50, 44, 34, 98, 34, 58, 51, 44, 34, 98, 34]⟩, .int .i64 21, .int .i64 7, .string ⟨#[49, 44]⟩, .int .i64 1, .int .i64 11, .string ⟨#[123, 125, 123, 125]⟩, .int .i64 2, .int .i64 11, .string t1, .int .i64 12, .int .i64 8, .string t2, .int .i64 12, .int .i64 4, .string t3, .int .i64 16383, .int .i64 5, .string t4, .int .i64 0, .int .i64 5, .string t5, .int .i64 65536, .int .i64 4, .string ⟨#[116, 114, 117, 101, 32, 102, 97, 108, 115, 101]⟩, .int .i64 5, .int .i64 11, .string ⟨#[91, 116, 114, 117, 101, 102, 97, 108, 115, 101, 93]⟩, .int .i64 1, .int .i64 3] 32)) w6.heap.size 32 (nmCells (nmRows t1 t2 t3 t4 t5)).toArray := by
    rw [nmCells_eq]
    exact heap_alloc_last w6 _
  have hB7 := bel_alloc hB6 (.cells #[.string ⟨#[91, 49, 44, 93]⟩, .int .i64 3, .int .i64 3, .string ⟨#[91, 49, 32, 50, 93]⟩, .int .i64 3, .int .i64 3, .string ⟨#[91, 49]⟩, .int .i64 2, .int .i64 4, .string ⟨#[123, 34, 97, 34, 58, 49, 44, 34, 97, 34, 58, 50, 125]⟩, .int .i64 7, .int .i64 7, .string ⟨#[123, 34, 97, 34, 32, 49, 125]⟩, .int .i64 5, .int .i64 3, .string ⟨#[49, 32, 50]⟩, .int .i64 2, .int .i64 11, .string ⟨#[49, 32, 120]⟩, .int .i64 2, .int .i64 3, .string ⟨#[]⟩, .int .i64 0, .int .i64 4, .string ⟨#[32, 32]⟩, .int .i64 2, .int .i64 4, .string ⟨#[91]⟩, .int .i64 1, .int .i64 4, .string ⟨#[91, 44, 49, 93]⟩, .int .i64 1, .int .i64 3, .string ⟨#[91, 49, 44, 44, 50, 93]⟩, .int .i64 3, .int .i64 3, .string ⟨#[123]⟩, .int .i64 1, .int .i64 4, .string ⟨#[123, 49, 58, 50, 125]⟩, .int .i64 1, .int .i64 3, .string ⟨#[123, 34, 97, 34]⟩, .int .i64 4, .int .i64 4, .string ⟨#[123, 34, 97, 34, 58, 125]⟩, .int .i64 5, .int .i64 3, .string ⟨#[123, 34, 97, 34, 58, 49]⟩, .int .i64 6, .int .i64 4, .string ⟨#[123, 34, 97, 34, 58, 49, 44, 125]⟩, .int .i64 7, .int .i64 3, .string ⟨#[123, 44, 125]⟩, .int .i64 1, .int .i64 3, .string ⟨#[93]⟩, .int .i64 0, .int .i64 3, .string ⟨#[58]⟩, .int .i64 0, .int .i64 3, .string ⟨#[123, 34, 97, 34, 58, 49, 93]⟩, .int .i64 6, .int .i64 3, .string ⟨#[91, 49, 125]⟩, .int .i64 2, .int .i64 3, .string ⟨#[91, 34, 97, 34, 58, 49, 93]⟩, .int .i64 4, .int .i64 3, .string ⟨#[110, 117, 108, 108]⟩, .int .i64 0, .int .i64 3, .string ⟨#[91, 49, 46, 53, 93]⟩, .int .i64 1, .int .i64 3, .string ⟨#[91, 57, 50, 50, 51, 51, 55, 50, 48, 51, 54, 56, 53, 52, 55, 55, 53, 56, 48, 56, 93]⟩, .int .i64 1, .int .i64 9, .string ⟨#[91, 34, 97, 93]⟩, .int .i64 1, .int .i64 4, .string ⟨#[91, 34, 255, 34, 93]⟩, .int .i64 1, .int .i64 12, .string ⟨#[123, 34, 97, 34, 58, 91, 49, 44, 123, 34, 97, 34, 58, 50, 44, 34, 98, 34, 58, 51, 44, 34, 98, 34]⟩, .int .i64 21, .int .i64 7, .string ⟨#[49, 44]⟩, .int .i64 1, .int .i64 11, .string ⟨#[123, 125, 123, 125]⟩, .int .i64 2, .int .i64 11, .string t1, .int .i64 12, .int .i64 8, .string t2, .int .i64 12, .int .i64 4, .string t3, .int .i64 16383, .int .i64 5, .string t4, .int .i64 0, .int .i64 5, .string t5, .int .i64 65536, .int .i64 4, .string ⟨#[116, 114, 117, 101, 32, 102, 97, 108, 115, 101]⟩, .int .i64 5, .int .i64 11, .string ⟨#[91, 116, 114, 117, 101, 102, 97, 108, 115, 101, 93]⟩, .int .i64 1, .int .i64 3] 32)
  generalize w6.alloc (.cells #[.string ⟨#[91, 49, 44, 93]⟩, .int .i64 3, .int .i64 3, .string ⟨#[91, 49, 32, 50, 93]⟩, .int .i64 3, .int .i64 3, .string ⟨#[91, 49]⟩, .int .i64 2, .int .i64 4, .string ⟨#[123, 34, 97, 34, 58, 49, 44, 34, 97, 34, 58, 50, 125]⟩, .int .i64 7, .int .i64 7, .string ⟨#[123, 34, 97, 34, 32, 49, 125]⟩, .int .i64 5, .int .i64 3, .string ⟨#[49, 32, 50]⟩, .int .i64 2, .int .i64 11, .string ⟨#[49, 32, 120]⟩, .int .i64 2, .int .i64 3, .string ⟨#[]⟩, .int .i64 0, .int .i64 4, .string ⟨#[32, 32]⟩, .int .i64 2, .int .i64 4, .string ⟨#[91]⟩, .int .i64 1, .int .i64 4, .string ⟨#[91, 44, 49, 93]⟩, .int .i64 1, .int .i64 3, .string ⟨#[91, 49, 44, 44, 50, 93]⟩, .int .i64 3, .int .i64 3, .string ⟨#[123]⟩, .int .i64 1, .int .i64 4, .string ⟨#[123, 49, 58, 50, 125]⟩, .int .i64 1, .int .i64 3, .string ⟨#[123, 34, 97, 34]⟩, .int .i64 4, .int .i64 4, .string ⟨#[123, 34, 97, 34, 58, 125]⟩, .int .i64 5, .int .i64 3, .string ⟨#[123, 34, 97, 34, 58, 49]⟩, .int .i64 6, .int .i64 4, .string ⟨#[123, 34, 97, 34, 58, 49, 44, 125]⟩, .int .i64 7, .int .i64 3, .string ⟨#[123, 44, 125]⟩, .int .i64 1, .int .i64 3, .string ⟨#[93]⟩, .int .i64 0, .int .i64 3, .string ⟨#[58]⟩, .int .i64 0, .int .i64 3, .string ⟨#[123, 34, 97, 34, 58, 49, 93]⟩, .int .i64 6, .int .i64 3, .string ⟨#[91, 49, 125]⟩, .int .i64 2, .int .i64 3, .string ⟨#[91, 34, 97, 34, 58, 49, 93]⟩, .int .i64 4, .int .i64 3, .string ⟨#[110, 117, 108, 108]⟩, .int .i64 0, .int .i64 3, .string ⟨#[91, 49, 46, 53, 93]⟩, .int .i64 1, .int .i64 3, .string ⟨#[91, 57, 50, 50, 51, 51, 55, 50, 48, 51, 54, 56, 53, 52, 55, 55, 53, 56, 48, 56, 93]⟩, .int .i64 1, .int .i64 9, .string ⟨#[91, 34, 97, 93]⟩, .int .i64 1, .int .i64 4, .string ⟨#[91, 34, 255, 34, 93]⟩, .int .i64 1, .int .i64 12, .string ⟨#[123, 34, 97, 34, 58, 91, 49, 44, 123, 34, 97, 34, 58, 50, 44, 34, 98, 34, 58, 51, 44, 34, 98, 34]⟩, .int .i64 21, .int .i64 7, .string ⟨#[49, 44]⟩, .int .i64 1, .int .i64 11, .string ⟨#[123, 125, 123, 125]⟩, .int .i64 2, .int .i64 11, .string t1, .int .i64 12, .int .i64 8, .string t2, .int .i64 12, .int .i64 4, .string t3, .int .i64 16383, .int .i64 5, .string t4, .int .i64 0, .int .i64 5, .string t5, .int .i64 65536, .int .i64 4, .string ⟨#[116, 114, 117, 101, 32, 102, 97, 108, 115, 101]⟩, .int .i64 5, .int .i64 11, .string ⟨#[91, 116, 114, 117, 101, 102, 97, 108, 115, 101, 93]⟩, .int .i64 1, .int .i64 3] 32) = w7 at hblk hB7 ⊢
  have HBLK := Lib.hid hblk
  generalize w6.heap.size = b at HBLK ⊢
  clear hblk hB6
  go_loopw [70] (fun i wr => ∃ k : Nat, k ≤ 39 ∧ i = .int .i64 k ∧ Below w7.heap.size w7 wr) (fun i _ => 39 - (intOf i).toNat)
  case atStart => exact ⟨0, by omega, rfl, Below.refl _ _⟩
  case round =>
    obtain ⟨k, hk, rfl, hBr⟩ := hrel
    have hBw := below_more hB7 hBr
    have henvr := henv.below hBw
    by_cases hk2 : k < 39
    · obtain ⟨x, hx⟩ : ∃ x, (nmRows t1 t2 t3 t4 t5)[k]? = some x := ⟨_, List.getElem?_eq_getElem (by rw [nmRows_len]; exact hk2)⟩
      have hxo := HROWS.out x (List.mem_of_getElem? hx)
      obtain ⟨c0, c1, c2⟩ := nmCells_get _ k x hx
      have hbk := HBLK.out.keep hBr
      have e0 : wr.cell? ⟨b, k * 3, none⟩ = some (.string x.1) := (hbk.cell _).trans (by simpa using c0)
      have e1 : wr.cell? ⟨b, k * 3 + 1, none⟩ = some (.int .i64 x.2.1) := (hbk.cell _).trans (by simpa using c1)
      have e2 : wr.cell? ⟨b, k * 3 + 2, none⟩ = some (.int .i64 x.2.2) := (hbk.cell _).trans (by simpa using c2)
      obtain ⟨s, a, er⟩ := x
      obtain ⟨hsz, hbad⟩ := hxo
      simp only [] at e0 e1 e2 hsz hbad
      have HRx := Lib.hid (fun W hE => read_any s W (by omega) hE _ (Lib.hid hbad))
      have hk0 : (0 : Int) ≤ (k : Int) := by omega
      have hk1 : (k : Int) < 39 := by omega
      clear hx c0 c1 c2 hbk hbad
      go_wp2_with fail
      have HX1 : Hid (BlkAt (wr.alloc (.cells #[.string s, .int .i64 a, .int .i64 er] 32)) wr.heap.size 32 #[.string s, .int .i64 a, .int .i64 er]) := blkAt_new wr _ _
      have hB8 := bel_alloc hBr (.cells #[.string s, .int .i64 a, .int .i64 er] 32)
      generalize wr.alloc (.cells #[.string s, .int .i64 a, .int .i64 er] 32) = w8 at HX1 hB8 ⊢
      generalize wr.heap.size = xb0 at HX1 ⊢
      refine (HRx.out _ (henv.below (below_more hB7 hB8))).mono ?_
      rintro e w9 ⟨hb9, rfl, hne⟩
      have HX9 := BlkAt.keep HX1.out (bel_alloc hb9 (.cells #[.int .u8 0, .int .i64 0, .string ⟨#[]⟩, .slice none 0 0, .slice none 0 0] 26))
      have y1 := HX9.cell 1
      have y2 := HX9.cell 2
      simp at y1 y2
      have hB9 := below_more hB8 hb9
      simp only [zeroV]
      go_wp2_with fail
      refine (Same_any noV9 noV9 _ _ _ (valAt_noV9 _) (valAt_noV9 _)).mono ?_
      rintro e w10 ⟨rfl, hb10⟩
      rw [sameV_self]
      go_wp2_with fail
      refine ⟨⟨k + 1, by omega, by go_num, below_more (bel_alloc hB9 _) hb10⟩, by simp [intOf]; omega⟩
    · obtain rfl : k = 39 := by omega
      clear HBLK hBr hB7
      go_wp2_with fail
      refine (K6.out _).mono ?_
      rintro e w10 ⟨rfl, hb10⟩
      have hB10 := below_more hBw hb10
      go_wp2_with fail
      refine (HR6.out _ (henv.below hB10)).mono ?_
      rintro e w11 ⟨hb11, ⟨xk, xn, xt, xa, xl, xc, xb, xm, xe⟩, rfl, hnew⟩
      obtain ⟨rfl, hxm⟩ := vc_parts hnew.bare
      have hxm' : xm = 8191 := hxm.trans (by show (List.replicate 8191 zeroN).length = 8191; exact List.length_replicate)
      subst hxm'
      have hxk : (listV (List.replicate 8191 zeroN)).k = 4 := rfl
      rw [hxk]
      simp only [VC.val]
      have HK12 : Hid (BlkAt (w11.alloc (.cells #[.int .u8 4, .int .i64 xn, .string xt, .slice xa xl xc, .slice xb 8191 xe] 26)) w11.heap.size 26 #[.int .u8 4, .int .i64 xn, .string xt, .slice xa xl xc, .slice xb 8191 xe]) := blkAt_new w11 _ _
      have hB12 := bel_alloc (below_more hB10 hb11) (.cells #[.int .u8 4, .int .i64 xn, .string xt, .slice xa xl xc, .slice xb 8191 xe] 26)
      clear hnew hxm hb10 hB10 hb11
      go_wp2_with fail
      generalize w11.alloc (.cells #[.int .u8 4, .int .i64 xn, .string xt, .slice xa xl xc, .slice xb 8191 xe] 26) = w12 at HK12 hB12 ⊢
      generalize w11.heap.size = vb at HK12 ⊢
      refine (K2.out _).mono ?_
      rintro e w13 ⟨rfl, hb13⟩
      go_wp2_with fail
      refine (K7.out _).mono ?_
      rintro e w14 ⟨rfl, hb14⟩
      have hb1314 := below_more hb13 hb14
      have HK14 := Lib.hid (BlkAt.keep HK12.out hb1314)
      have hB14 := below_more hB12 hb1314
      clear HK12 hB12 hb13 hb14 hb1314
      go_wp2_with fail
      refine (HR7.out _ (henv.below hB14)).mono ?_
      rintro e w15 ⟨hb15, ⟨yk, yn, yt, ya, yl, yc, yb, ym, ye⟩, rfl, hnew⟩
      obtain ⟨rfl, hym⟩ := vc_parts hnew.bare
      have hym' : ym = 1 := hym
      subst hym'
      have hyk : deepV.k = 4 := rfl
      rw [hyk]
      simp only [VC.val]
      have hba := bel_alloc hb15 (.cells #[.int .u8 4, .int .i64 yn, .string yt, .slice ya yl yc, .slice yb 1 ye] 26)
      have HL16 : Hid (BlkAt (w15.alloc (.cells #[.int .u8 4, .int .i64 yn, .string yt, .slice ya yl yc, .slice yb 1 ye] 26)) w15.heap.size 26 #[.int .u8 4, .int .i64 yn, .string yt, .slice ya yl yc, .slice yb 1 ye]) := blkAt_new w15 _ _
      have HK16 := Lib.hid (BlkAt.keep HK14.out hba)
      have hB16 := below_more hB14 hba
      clear hnew hym hba HK14 hB14
      go_wp2_with fail
      generalize w15.alloc (.cells #[.int .u8 4, .int .i64 yn, .string yt, .slice ya yl yc, .slice yb 1 ye] 26) = w16 at HL16 HK16 hB16 ⊢
      generalize w15.heap.size = ub at HL16 ⊢
      refine (HR8.out _ (henv.below hB16)).mono ?_
      rintro e w17 ⟨hb17, ⟨zk, zn, zt, za, zl, zc, zb, zm, ze⟩, rfl, hnew⟩
      simp only [VC.val]
      have hba := bel_alloc hb17 (.cells #[.int .u8 zk, .int .i64 zn, .string zt, .slice za zl zc, .slice zb zm ze] 26)
      have HM18 : Hid (BlkAt (w17.alloc (.cells #[.int .u8 zk, .int .i64 zn, .string zt, .slice za zl zc, .slice zb zm ze] 26)) w17.heap.size 26 #[.int .u8 zk, .int .i64 zn, .string zt, .slice za zl zc, .slice zb zm ze]) := blkAt_new w17 _ _
      have HV18 : Hid (ValAt (w17.alloc (.cells #[.int .u8 zk, .int .i64 zn, .string zt, .slice za zl zc, .slice zb zm ze] 26)) wantV (VC.val ⟨zk, zn, zt, za, zl, zc, zb, zm, ze⟩)) := hnew.bare.keep (bel_alloc (Below.refl _ _) _)
      have HK18 := Lib.hid (BlkAt.keep HK16.out hba)
      have HL18 := Lib.hid (BlkAt.keep HL16.out hba)
      have hB18 := below_more hB16 hba
      clear hnew hba HK16 HL16 hB16
      go_upto_region 14 with (fail)
      have hs18 : (w17.alloc (.cells #[.int .u8 zk, .int .i64 zn, .string zt, .slice za zl zc, .slice zb zm ze] 26)).heap.size = w17.heap.size + 1 := size_al _ _
      generalize w17.alloc (.cells #[.int .u8 zk, .int .i64 zn, .string zt, .slice za zl zc, .slice zb zm ze] 26) = w18 at HM18 HV18 HK18 HL18 hB18 hs18 ⊢
      generalize w17.heap.size = s at HM18 hs18 ⊢
      have e1 : (w18.alloc (.cells #[.string ⟨#[]⟩, .string ⟨#[97]⟩, .string ⟨#[98]⟩] 9)).heap.size = s + 1 + 1 := by rw [size_al, hs18]
      have e2 : ((w18.alloc (.cells #[.string ⟨#[]⟩, .string ⟨#[97]⟩, .string ⟨#[98]⟩] 9)).alloc (.cells #[.string ⟨#[98]⟩] 9)).heap.size = s + 1 + 1 + 1 := by rw [size_al, e1]
      have e3 : (((w18.alloc (.cells #[.string ⟨#[]⟩, .string ⟨#[97]⟩, .string ⟨#[98]⟩] 9)).alloc (.cells #[.string ⟨#[98]⟩] 9)).alloc (.cells #[.int .u8 1, .int .i64 0, .string ⟨#[]⟩, .slice none 0 0, .slice none 0 0] 26)).heap.size = s + 1 + 1 + 1 + 1 := by rw [size_al, e2]
      have e4 : ((((w18.alloc (.cells #[.string ⟨#[]⟩, .string ⟨#[97]⟩, .string ⟨#[98]⟩] 9)).alloc (.cells #[.string ⟨#[98]⟩] 9)).alloc (.cells #[.int .u8 1, .int .i64 0, .string ⟨#[]⟩, .slice none 0 0, .slice none 0 0] 26)).alloc (.cells #[.int .u8 2, .int .i64 (-9223372036854775808), .string ⟨#[]⟩, .slice none 0 0, .slice none 0 0, .int .u8 5, .int .i64 0, .string ⟨#[]⟩, .slice (some ⟨s + 1 + 1, 0, none⟩) 1 1, .slice (some ⟨s + 1 + 1 + 1, 0, none⟩) 1 1, .int .u8 4, .int .i64 0, .string ⟨#[]⟩, .slice none 0 0, .slice none 0 0] 26)).heap.size = s + 1 + 1 + 1 + 1 + 1 := by rw [size_al, e3]
      have b1 : BlkAt (((((w18.alloc (.cells #[.string ⟨#[]⟩, .string ⟨#[97]⟩, .string ⟨#[98]⟩] 9)).alloc (.cells #[.string ⟨#[98]⟩] 9)).alloc (.cells #[.int .u8 1, .int .i64 0, .string ⟨#[]⟩, .slice none 0 0, .slice none 0 0] 26)).alloc (.cells #[.int .u8 2, .int .i64 (-9223372036854775808), .string ⟨#[]⟩, .slice none 0 0, .slice none 0 0, .int .u8 5, .int .i64 0, .string ⟨#[]⟩, .slice (some ⟨s + 1 + 1, 0, none⟩) 1 1, .slice (some ⟨s + 1 + 1 + 1, 0, none⟩) 1 1, .int .u8 4, .int .i64 0, .string ⟨#[]⟩, .slice none 0 0, .slice none 0 0] 26)).alloc (.cells #[.int .u8 5, .int .i64 0, .string ⟨#[]⟩, .slice (some ⟨s + 1, 0, none⟩) 3 3, .slice (some ⟨s + 1 + 1 + 1 + 1, 0, none⟩) 3 3] 26)) (s + 1) 9 #[.string ⟨#[]⟩, .string ⟨#[97]⟩, .string ⟨#[98]⟩] := blk_num (((((blkAt_new w18 _ _).alloc _).alloc _).alloc _).alloc _) hs18
      have b2 : BlkAt (((((w18.alloc (.cells #[.string ⟨#[]⟩, .string ⟨#[97]⟩, .string ⟨#[98]⟩] 9)).alloc (.cells #[.string ⟨#[98]⟩] 9)).alloc (.cells #[.int .u8 1, .int .i64 0, .string ⟨#[]⟩, .slice none 0 0, .slice none 0 0] 26)).alloc (.cells #[.int .u8 2, .int .i64 (-9223372036854775808), .string ⟨#[]⟩, .slice none 0 0, .slice none 0 0, .int .u8 5, .int .i64 0, .string ⟨#[]⟩, .slice (some ⟨s + 1 + 1, 0, none⟩) 1 1, .slice (some ⟨s + 1 + 1 + 1, 0, none⟩) 1 1, .int .u8 4, .int .i64 0, .string ⟨#[]⟩, .slice none 0 0, .slice none 0 0] 26)).alloc (.cells #[.int .u8 5, .int .i64 0, .string ⟨#[]⟩, .slice (some ⟨s + 1, 0, none⟩) 3 3, .slice (some ⟨s + 1 + 1 + 1 + 1, 0, none⟩) 3 3] 26)) (s + 1 + 1) 9 #[.string ⟨#[98]⟩] := blk_num ((((blkAt_new (w18.alloc (.cells #[.string ⟨#[]⟩, .string ⟨#[97]⟩, .string ⟨#[98]⟩] 9)) _ _).alloc _).alloc _).alloc _) e1
      have b3 : BlkAt (((((w18.alloc (.cells #[.string ⟨#[]⟩, .string ⟨#[97]⟩, .string ⟨#[98]⟩] 9)).alloc (.cells #[.string ⟨#[98]⟩] 9)).alloc (.cells #[.int .u8 1, .int .i64 0, .string ⟨#[]⟩, .slice none 0 0, .slice none 0 0] 26)).alloc (.cells #[.int .u8 2, .int .i64 (-9223372036854775808), .string ⟨#[]⟩, .slice none 0 0, .slice none 0 0, .int .u8 5, .int .i64 0, .string ⟨#[]⟩, .slice (some ⟨s + 1 + 1, 0, none⟩) 1 1, .slice (some ⟨s + 1 + 1 + 1, 0, none⟩) 1 1, .int .u8 4, .int .i64 0, .string ⟨#[]⟩, .slice none 0 0, .slice none 0 0] 26)).alloc (.cells #[.int .u8 5, .int .i64 0, .string ⟨#[]⟩, .slice (some ⟨s + 1, 0, none⟩) 3 3, .slice (some ⟨s + 1 + 1 + 1 + 1, 0, none⟩) 3 3] 26)) (s + 1 + 1 + 1) 26 #[.int .u8 1, .int .i64 0, .string ⟨#[]⟩, .slice none 0 0, .slice none 0 0] := blk_num (((blkAt_new ((w18.alloc (.cells #[.string ⟨#[]⟩, .string ⟨#[97]⟩, .string ⟨#[98]⟩] 9)).alloc (.cells #[.string ⟨#[98]⟩] 9)) _ _).alloc _).alloc _) e2
      have b4 : BlkAt (((((w18.alloc (.cells #[.string ⟨#[]⟩, .string ⟨#[97]⟩, .string ⟨#[98]⟩] 9)).alloc (.cells #[.string ⟨#[98]⟩] 9)).alloc (.cells #[.int .u8 1, .int .i64 0, .string ⟨#[]⟩, .slice none 0 0, .slice none 0 0] 26)).alloc (.cells #[.int .u8 2, .int .i64 (-9223372036854775808), .string ⟨#[]⟩, .slice none 0 0, .slice none 0 0, .int .u8 5, .int .i64 0, .string ⟨#[]⟩, .slice (some ⟨s + 1 + 1, 0, none⟩) 1 1, .slice (some ⟨s + 1 + 1 + 1, 0, none⟩) 1 1, .int .u8 4, .int .i64 0, .string ⟨#[]⟩, .slice none 0 0, .slice none 0 0] 26)).alloc (.cells #[.int .u8 5, .int .i64 0, .string ⟨#[]⟩, .slice (some ⟨s + 1, 0, none⟩) 3 3, .slice (some ⟨s + 1 + 1 + 1 + 1, 0, none⟩) 3 3] 26)) (s + 1 + 1 + 1 + 1) 26 #[.int .u8 2, .int .i64 (-9223372036854775808), .string ⟨#[]⟩, .slice none 0 0, .slice none 0 0, .int .u8 5, .int .i64 0, .string ⟨#[]⟩, .slice (some ⟨s + 1 + 1, 0, none⟩) 1 1, .slice (some ⟨s + 1 + 1 + 1, 0, none⟩) 1 1, .int .u8 4, .int .i64 0, .string ⟨#[]⟩, .slice none 0 0, .slice none 0 0] := blk_num ((blkAt_new (((w18.alloc (.cells #[.string ⟨#[]⟩, .string ⟨#[97]⟩, .string ⟨#[98]⟩] 9)).alloc (.cells #[.string ⟨#[98]⟩] 9)).alloc (.cells #[.int .u8 1, .int .i64 0, .string ⟨#[]⟩, .slice none 0 0, .slice none 0 0] 26)) _ _).alloc _) e3
      have b5 : BlkAt (((((w18.alloc (.cells #[.string ⟨#[]⟩, .string ⟨#[97]⟩, .string ⟨#[98]⟩] 9)).alloc (.cells #[.string ⟨#[98]⟩] 9)).alloc (.cells #[.int .u8 1, .int .i64 0, .string ⟨#[]⟩, .slice none 0 0, .slice none 0 0] 26)).alloc (.cells #[.int .u8 2, .int .i64 (-9223372036854775808), .string ⟨#[]⟩, .slice none 0 0, .slice none 0 0, .int .u8 5, .int .i64 0, .string ⟨#[]⟩, .slice (some ⟨s + 1 + 1, 0, none⟩) 1 1, .slice (some ⟨s + 1 + 1 + 1, 0, none⟩) 1 1, .int .u8 4, .int .i64 0, .string ⟨#[]⟩, .slice none 0 0, .slice none 0 0] 26)).alloc (.cells #[.int .u8 5, .int .i64 0, .string ⟨#[]⟩, .slice (some ⟨s + 1, 0, none⟩) 3 3, .slice (some ⟨s + 1 + 1 + 1 + 1, 0, none⟩) 3 3] 26)) (s + 1 + 1 + 1 + 1 + 1) 26 #[.int .u8 5, .int .i64 0, .string ⟨#[]⟩, .slice (some ⟨s + 1, 0, none⟩) 3 3, .slice (some ⟨s + 1 + 1 + 1 + 1, 0, none⟩) 3 3] := blk_num (blkAt_new ((((w18.alloc (.cells #[.string ⟨#[]⟩, .string ⟨#[97]⟩, .string ⟨#[98]⟩] 9)).alloc (.cells #[.string ⟨#[98]⟩] 9)).alloc (.cells #[.int .u8 1, .int .i64 0, .string ⟨#[]⟩, .slice none 0 0, .slice none 0 0] 26)).alloc (.cells #[.int .u8 2, .int .i64 (-9223372036854775808), .string ⟨#[]⟩, .slice none 0 0, .slice none 0 0, .int .u8 5, .int .i64 0, .string ⟨#[]⟩, .slice (some ⟨s + 1 + 1, 0, none⟩) 1 1, .slice (some ⟨s + 1 + 1 + 1, 0, none⟩) 1 1, .int .u8 4, .int .i64 0, .string ⟨#[]⟩, .slice none 0 0, .slice none 0 0] 26)) _ _) e4
      have hbU : Below w18.heap.size w18 (((((w18.alloc (.cells #[.string ⟨#[]⟩, .string ⟨#[97]⟩, .string ⟨#[98]⟩] 9)).alloc (.cells #[.string ⟨#[98]⟩] 9)).alloc (.cells #[.int .u8 1, .int .i64 0, .string ⟨#[]⟩, .slice none 0 0, .slice none 0 0] 26)).alloc (.cells #[.int .u8 2, .int .i64 (-9223372036854775808), .string ⟨#[]⟩, .slice none 0 0, .slice none 0 0, .int .u8 5, .int .i64 0, .string ⟨#[]⟩, .slice (some ⟨s + 1 + 1, 0, none⟩) 1 1, .slice (some ⟨s + 1 + 1 + 1, 0, none⟩) 1 1, .int .u8 4, .int .i64 0, .string ⟨#[]⟩, .slice none 0 0, .slice none 0 0] 26)).alloc (.cells #[.int .u8 5, .int .i64 0, .string ⟨#[]⟩, .slice (some ⟨s + 1, 0, none⟩) 3 3, .slice (some ⟨s + 1 + 1 + 1 + 1, 0, none⟩) 3 3] 26)) := bel_alloc (bel_alloc (bel_alloc (bel_alloc (bel_alloc (Below.refl _ _) _) _) _) _) _
      generalize (((((w18.alloc (.cells #[.string ⟨#[]⟩, .string ⟨#[97]⟩, .string ⟨#[98]⟩] 9)).alloc (.cells #[.string ⟨#[98]⟩] 9)).alloc (.cells #[.int .u8 1, .int .i64 0, .string ⟨#[]⟩, .slice none 0 0, .slice none 0 0] 26)).alloc (.cells #[.int .u8 2, .int .i64 (-9223372036854775808), .string ⟨#[]⟩, .slice none 0 0, .slice none 0 0, .int .u8 5, .int .i64 0, .string ⟨#[]⟩, .slice (some ⟨s + 1 + 1, 0, none⟩) 1 1, .slice (some ⟨s + 1 + 1 + 1, 0, none⟩) 1 1, .int .u8 4, .int .i64 0, .string ⟨#[]⟩, .slice none 0 0, .slice none 0 0] 26)).alloc (.cells #[.int .u8 5, .int .i64 0, .string ⟨#[]⟩, .slice (some ⟨s + 1, 0, none⟩) 3 3, .slice (some ⟨s + 1 + 1 + 1 + 1, 0, none⟩) 3 3] 26)) = w19 at b1 b2 b3 b4 b5 hbU ⊢
      have hWant : ValAt w19 wantV (.agg #[.int .u8 5, .int .i64 0, .string ⟨#[]⟩, .slice (some ⟨s + 1, 0, none⟩) 3 3, .slice (some ⟨s + 1 + 1 + 1 + 1, 0, none⟩) 3 3]) :=
        valAt_mk (by decide) (by decide) (by decide) (by decide) (by decide) (strsAt_len (l := [⟨#[]⟩, ⟨#[97]⟩, ⟨#[98]⟩]) (by rfl) ⟨b1.cell 0, b1.cell 1, b1.cell 2, trivial⟩)
          (itemsAt_len (l := [.mk 2 (-9223372036854775808) ⟨#[]⟩ [] [], .mk 5 0 ⟨#[]⟩ [⟨#[98]⟩] [.mk 1 0 ⟨#[]⟩ [] []], .mk 4 0 ⟨#[]⟩ [] []]) (by rfl)
            (rowAt_cons (valAt_leaf _ 2 (-9223372036854775808) ⟨#[]⟩ (by decide) (by decide) (by decide) (by decide) (by decide)) (b4.cell 0) (b4.cell 1) (b4.cell 2) (b4.cell 3) (b4.cell 4)
              (rowAt_cons (valAt_mk (by decide) (by decide) (by decide) (by decide) (by decide) (strsAt_len (l := [⟨#[98]⟩]) (by rfl) ⟨b2.cell 0, trivial⟩) (itemsAt_len (l := [.mk 1 0 ⟨#[]⟩ [] []]) (by rfl) (rowAt_cons (valAt_leaf _ 1 0 ⟨#[]⟩ (by decide) (by decide) (by decide) (by decide) (by decide)) (b3.cell 0) (b3.cell 1) (b3.cell 2) (b3.cell 3) (b3.cell 4) (rowAt_nil _ _ _)))) (b4.cell 5) (b4.cell 6) (b4.cell 7) (b4.cell 8) (b4.cell 9)
                (rowAt_cons (valAt_leaf _ 4 0 ⟨#[]⟩ (by decide) (by decide) (by decide) (by decide) (by decide)) (b4.cell 10) (b4.cell 11) (b4.cell 12) (b4.cell 13) (b4.cell 14) (rowAt_nil _ _ _)))))
      have HWant := Lib.hid hWant
      have HV19 := Lib.hid (HV18.out.keep hbU)
      have hB19 := below_more hB18 hbU
      obtain ⟨k0, k1, k2, k3, k4, -⟩ := blk5 (BlkAt.keep HK18.out hbU)
      obtain ⟨l0, l1, l2, l3, l4, -⟩ := blk5 (BlkAt.keep HL18.out hbU)
      obtain ⟨m0, m1, m2, m3, m4, -⟩ := blk5 (BlkAt.keep HM18.out hbU)
      obtain ⟨n0, n1, n2, n3, n4, -⟩ := blk5 b5
      clear hWant b1 b2 b3 b4 b5 e1 e2 e3 e4
      go_wp2_with fail
      refine (Same_any _ _ _ _ _ HV19.out HWant.out).mono ?_
      rintro e w20 ⟨rfl, hb20⟩
      rw [sameV_self]
      go_wp2_with fail
      go_ret
      exact ⟨rfl, below_more hB19 hb20⟩
end Go.Proofs.YtngebebhaehmnaaGreatDoor
