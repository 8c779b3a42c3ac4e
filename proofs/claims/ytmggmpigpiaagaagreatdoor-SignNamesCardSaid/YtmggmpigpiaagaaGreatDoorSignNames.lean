/-
  SignNames plainly: its texts, what is told of them, its envelopes.
  The walk of the law SignNames.
-/
import Derived.Test.YtmggmpigpiaagaaGreatDoorSignM
import Derived.Test.YtmggmpigpiaagaaGreatDoorSignW
import Derived.Test.YtmggmpigpiaagaaGreatDoorSignN
import Derived.Deep.LoopGhost
namespace Go.Proofs.YtmggmpigpiaagaaGreatDoor
section
open Go.RowKit
def nA : ByteArray := (⟨#[34]⟩ ++ idText 97) ++ ⟨#[34]⟩
def nOne (A : ByteArray) : ByteArray := (⟨#[123, 34, 107, 101, 121, 105, 100, 34, 58]⟩ ++ A) ++ ⟨#[44, 34, 115, 105, 103, 34, 58, 34, 48, 48, 34, 125]⟩
def nMany (O : ByteArray) : Nat → ByteArray
 | 0 => O
 | j + 1 => (nMany O j ++ ⟨#[44]⟩) ++ O
theorem nMany_size (O : ByteArray) : ∀ j, (nMany O j).size = O.size + j * (O.size + 1)
 | 0 => by simp [nMany]
 | j + 1 => by
   rw [nMany, ByteArray.size_append, ByteArray.size_append, nMany_size O j, Nat.add_mul]
   have : (⟨#[44]⟩ : ByteArray).size = 1 := rfl
   omega
def rowsN (A O M : ByteArray) : List (ByteArray × Int) := [
 ((⟨#[]⟩ : ByteArray), (4 : Int)),
 ((⟨#[91, 93]⟩ : ByteArray), (10 : Int)),
 ((⟨#[123, 125]⟩ : ByteArray), (6 : Int)),
 ((⟨#[123, 34, 115, 105, 103, 110, 101, 100, 34, 58, 123, 125, 125]⟩ : ByteArray), (6 : Int)),
 ((⟨#[123, 34, 115, 105, 103, 110, 97, 116, 117, 114, 101, 115, 34, 58, 91, 93, 125]⟩ : ByteArray), (6 : Int)),
 ((⟨#[123, 34, 115, 105, 103, 110, 97, 116, 117, 114, 101, 115, 34, 58, 123, 125, 44, 34, 115, 105, 103, 110, 101, 100, 34, 58, 123, 125, 125]⟩ : ByteArray), (10 : Int)),
 ((⟨#[123, 34, 115, 105, 103, 110, 97, 116, 117, 114, 101, 115, 34, 58, 91, 93, 44, 34, 115, 105, 103, 110, 101, 100, 34, 58, 123, 125, 44, 34, 120, 34, 58, 49, 125]⟩ : ByteArray), (11 : Int)),
 ((⟨#[123, 34, 115, 105, 103, 110, 97, 116, 117, 114, 101, 115, 34, 58, 91, 49, 93, 44, 34, 115, 105, 103, 110, 101, 100, 34, 58, 123, 125, 125]⟩ : ByteArray), (10 : Int)),
 ((⟨#[123, 34, 115, 105, 103, 110, 97, 116, 117, 114, 101, 115, 34, 58, 91, 123, 125, 93, 44, 34, 115, 105, 103, 110, 101, 100, 34, 58, 49, 125]⟩ : ByteArray), (6 : Int)),
 ((((⟨#[123, 34, 115, 105, 103, 110, 97, 116, 117, 114, 101, 115, 34, 58, 91, 123, 34, 107, 101, 121, 105, 100, 34, 58]⟩ ++ A) ++ ⟨#[125, 93, 44, 34, 115, 105, 103, 110, 101, 100, 34, 58, 123, 125, 125]⟩) : ByteArray), (6 : Int)),
 ((((⟨#[123, 34, 115, 105, 103, 110, 97, 116, 117, 114, 101, 115, 34, 58, 91, 123, 34, 107, 101, 121, 105, 100, 34, 58]⟩ ++ A) ++ ⟨#[44, 34, 115, 105, 103, 34, 58, 34, 48, 48, 48, 34, 125, 93, 44, 34, 115, 105, 103, 110, 101, 100, 34, 58, 123, 125, 125]⟩) : ByteArray), (3 : Int)),
 ((((⟨#[123, 34, 115, 105, 103, 110, 97, 116, 117, 114, 101, 115, 34, 58, 91, 123, 34, 107, 101, 121, 105, 100, 34, 58]⟩ ++ A) ++ ⟨#[44, 34, 115, 105, 103, 34, 58, 34, 34, 125, 93, 44, 34, 115, 105, 103, 110, 101, 100, 34, 58, 123, 125, 125]⟩) : ByteArray), (3 : Int)),
 ((⟨#[123, 34, 115, 105, 103, 110, 97, 116, 117, 114, 101, 115, 34, 58, 91, 123, 34, 107, 101, 121, 105, 100, 34, 58, 34, 97, 97, 34, 44, 34, 115, 105, 103, 34, 58, 34, 48, 48, 34, 125, 93, 44, 34, 115, 105, 103, 110, 101, 100, 34, 58, 123, 125, 125]⟩ : ByteArray), (3 : Int)),
 ((((⟨#[123, 34, 115, 105, 103, 110, 97, 116, 117, 114, 101, 115, 34, 58, 91, 123, 34, 107, 101, 121, 105, 100, 34, 58]⟩ ++ A) ++ ⟨#[44, 34, 115, 105, 103, 34, 58, 34, 48, 48, 34, 44, 34, 120, 34, 58, 49, 125, 93, 44, 34, 115, 105, 103, 110, 101, 100, 34, 58, 123, 125, 125]⟩) : ByteArray), (11 : Int)),
 ((((⟨#[123, 34, 115, 105, 103, 110, 97, 116, 117, 114, 101, 115, 34, 58, 91, 123, 34, 107, 101, 121, 105, 100, 34, 58]⟩ ++ A) ++ ⟨#[44, 34, 115, 105, 103, 34, 58, 55, 125, 93, 44, 34, 115, 105, 103, 110, 101, 100, 34, 58, 123, 125, 125]⟩) : ByteArray), (10 : Int)),
 ((((⟨#[123, 34, 115, 105, 103, 110, 97, 116, 117, 114, 101, 115, 34, 58, 91]⟩ ++ M) ++ ⟨#[93, 44, 34, 115, 105, 103, 110, 101, 100, 34, 58, 49, 125]⟩) : ByteArray), (5 : Int)),
 ((((⟨#[123, 34, 115, 105, 103, 110, 97, 116, 117, 114, 101, 115, 34, 58, 91]⟩ ++ O) ++ ⟨#[93, 44, 34, 115, 105, 103, 110, 101, 100, 34, 58, 49, 125]⟩) : ByteArray), (10 : Int)),
 ((((((⟨#[123, 34, 115, 105, 103, 110, 97, 116, 117, 114, 101, 115, 34, 58, 91]⟩ ++ O) ++ ⟨#[44]⟩) ++ O) ++ ⟨#[93, 44, 34, 115, 105, 103, 110, 101, 100, 34, 58, 123, 125, 125]⟩) : ByteArray), (0 : Int)),
 ((⟨#[123, 34, 115, 105, 103, 110, 101, 100, 34, 58, 123, 125, 44, 34, 115, 105, 103, 110, 97, 116, 117, 114, 101, 115, 34, 58, 91, 93, 125, 32]⟩ : ByteArray), (0 : Int)),
 ((⟨#[123, 34, 115, 105, 103, 110, 101, 100, 34, 58, 123, 125, 44, 34, 115, 105, 103, 110, 97, 116, 117, 114, 101, 115, 34, 58, 91, 93, 125, 120]⟩ : ByteArray), (3 : Int)),
 ((⟨#[123, 34, 115, 105, 103, 110, 101, 100, 34, 58, 123, 125, 44, 34, 115, 105, 103, 110, 97, 116, 117, 114, 101, 115, 34, 58, 91, 93, 125, 44]⟩ : ByteArray), (11 : Int))]
def rowOk (p : ByteArray × Int) : Bool := match envT p.1.data.toList with
 | .bad e => e != 0 && e == p.2
 | .ok x => p.2 == 0 && decide (x.1.length ≤ 32)
theorem rowsN_ok : (rowsN nA (nOne nA) (nMany (nOne nA) 32)).all rowOk = true := by kernel_rfl
def cellsL : List (ByteArray × Int) → List Value
 | [] => []
 | p :: r => .string p.1 :: .int .i64 p.2 :: cellsL r
theorem cellsL_get : ∀ (L : List (ByteArray × Int)) (k : Nat) (p : ByteArray × Int), L[k]? = some p → (cellsL L)[k * 2]? = some (.string p.1) ∧ (cellsL L)[k * 2 + 1]? = some (.int .i64 p.2)
 | [], _, _, h => by simp at h
 | q :: r, 0, p, h => by
   simp at h
   subst h
   exact ⟨rfl, rfl⟩
 | q :: r, k + 1, p, h => by
   have := cellsL_get r k p (by simpa using h)
   rw [Nat.add_mul]
   exact this
theorem rowsN_len (A O M : ByteArray) : (rowsN A O M).length = 21 := rfl
theorem ex32_may : envMay (List.replicate 32 exSig) exV = true := by kernel_rfl
theorem long_may : envMay [(idText 97, idText 48 ++ idText 102)] exV = true := by kernel_rfl
theorem past_may : envMay [(idText 97, (idText 48 ++ idText 102) ++ ⟨#[48, 48]⟩)] exV = false := by kernel_rfl
theorem upper_may : envMay [(idText 65, ⟨#[48, 48, 102, 102]⟩)] exV = false := by kernel_rfl
theorem ex1_parts {w w' : World} {e : Ending} (h : ExOwn 1 w e w') : ∃ (yk yn : Int) (yt : ByteArray) (ya : Option Addr) (yl yc : Nat) (yb : Option Addr) (ym ye g c : Nat) (cur : Array Value), e = .returned (envVal ⟨yk, yn, yt, ya, yl, yc, yb, ym, ye⟩ (some ⟨g, 0, none⟩) 1 c) ∧ Below w.heap.size w w' ∧ w.heap.size ≤ g ∧ BlkAt w' g 43 cur ∧ 2 ≤ cur.size ∧ cur[0]? = some (.string (idText 97)) ∧ cur[1]? = some (.string ⟨#[48, 48, 102, 102]⟩) ∧ ValAt (hidden (fun k => decide (k = g)) w') exV (VC.val ⟨yk, yn, yt, ya, yl, yc, yb, ym, ye⟩) := by
 obtain ⟨⟨yk, yn, yt, ya, yl, yc, yb, ym, ye⟩, a, c, C, h1, h2, h3, h4, h5⟩ := h
 rcases h5.2 with ⟨-, h0⟩ | ⟨g, cap, cur, e1, hg, hcl, hc1, -, hsz, htk⟩
 · cases h0
 · cases e1
   have hs2 : 2 ≤ cur.size := by omega
   have hget : ∀ i, i < 2 → cur[i]? = (sgCells (List.replicate 1 exSig))[i]? := fun i hi => by
     rw [← htk, List.getElem?_take, if_pos (by omega), Array.getElem?_toList]
   refine ⟨yk, yn, yt, ya, yl, yc, yb, ym, ye, g, c, cur, h1, h2, by omega, hcl, hs2, (hget 0 (by omega)).trans rfl, (hget 1 (by omega)).trans rfl, ValAt.carry h4 fun k _ hk2 => ⟨?_, rfl⟩⟩
   rw [Bool.or_eq_false_iff, decide_eq_false_iff_not, decide_eq_false_iff_not] at hk2
   rw [decide_eq_false_iff_not]
   omega
theorem sig1_at {w : World} {g c : Nat} {cur : Array Value} {s : SigP} (h : BlkAt w g 43 cur) (h0 : cur[0]? = some (.string s.1)) (h1 : cur[1]? = some (.string s.2)) : SigsAt w (.slice (some ⟨g, 0, none⟩) 1 c) [s] := by
 refine ⟨_, _, rfl, fun i t ht => ⟨g, 0, rfl, ?_⟩⟩
 match i, ht with
 | 0, ht =>
   simp at ht
   subst ht
   exact ⟨by rw [h.cell]; exact h0, by rw [h.cell]; exact h1⟩
 | i + 1, ht => simp at ht
theorem ex1_set {wE w4 : World} {g i : Nat} {cur : Array Value} {X : JV} {v u : Value} (hv : ValAt (hidden (fun k => decide (k = g)) wE) X v) (hb : Below wE.heap.size wE w4) (hK : BlkAt wE g 43 cur) :
   ValAt (w4.setCell ⟨g, i, none⟩ u) X v ∧ BlkAt (w4.setCell ⟨g, i, none⟩ u) g 43 (cur.setIfInBounds i u) := by
 refine ⟨ValAt.bare (P := fun _ => false) (ValAt.carry hv fun k hk hk2 => ⟨rfl, ?_⟩), (BlkAt.keep hK hb).set i u⟩
 rw [decide_eq_false_iff_not] at hk2
 exact (Below.heap_setCell _ _ _ _ hk2).trans (hb.block k hk)
end

section
set_option maxRecDepth 100000
open Go.RowKit
def namD (sl : Value) (a b ab abz : ByteArray) (k : Nat) (v : Value) (_ : World) : Prop := match k with
 | 1 => v = sl
 | 2 => v = .string a
 | 3 => v = .string b
 | 4 => v = .string ab
 | 5 => v = .string abz
 | _ => True
theorem namD_keep {sl : Value} {a b ab abz : ByteArray} : ∀ k v w w', namD sl a b ab abz k v w → Below w.heap.size w w' → namD sl a b ab abz k v w' := fun _ _ _ _ h _ => h
def MayIs (b : Nat) (y : VC) (a : Option Addr) (n c : Nat) (r : Bool) (w : World) : Prop :=
 BlkAt w b 29 #[.int .u8 y.k, .int .i64 y.n, .string y.t, .slice y.a y.l y.c, .slice y.b y.m y.e, .slice a n c] ∧
 ∀ W, Below w.heap.size w W → Calls Tryz.prog 10 #[envVal y a n c] W fun e w' => e = .returned (.bool r) ∧ Below W.heap.size W w'
theorem MayIs.keep {b n c : Nat} {y : VC} {a : Option Addr} {r : Bool} {w w' : World} (h : MayIs b y a n c r w) (hb : Below w.heap.size w w') : MayIs b y a n c r w' :=
 ⟨h.1.keep hb, fun W hW => h.2 W (below_more hb hW)⟩
theorem mayIs_of {X : JV} {l : List SigP} {b n c : Nat} {y : VC} {a : Option Addr} {r : Bool} {w : World} (hK : BlkAt w b 29 #[.int .u8 y.k, .int .i64 y.n, .string y.t, .slice y.a y.l y.c, .slice y.b y.m y.e, .slice a n c]) (h : ValAt w X y.val) (hs : SigsAt w (.slice a n c) l) (hn : l.length = n) (hl : n ≤ 1000) (hz : ∀ s ∈ l, s.1.size ≤ 1000 ∧ s.2.size ≤ 1000) (hm : envMay l X = r) : MayIs b y a n c r w :=
 ⟨hK, fun W hW => sMay_any X l y a n c W hn (h.keep hW) (hs.keep hW) hl (fun s hs => by have := hz s hs; omega) (fun s hs => by have := hz s hs; unfold maxLen; omega) r hm⟩
theorem mayIs_one {wa Y : World} {g c i bE : Nat} {cur : Array Value} {y : VC} {u : Value} (s : SigP) {r : Bool} (hva : ValAt (hidden (fun k => decide (k = g)) wa) exV y.val) (hK : BlkAt wa g 43 cur) (hb : Below wa.heap.size wa Y) (hE : BlkAt Y bE 29 #[.int .u8 y.k, .int .i64 y.n, .string y.t, .slice y.a y.l y.c, .slice y.b y.m y.e, .slice (some ⟨g, 0, none⟩) 1 c]) (hne : g ≠ bE)
   (h0 : (cur.setIfInBounds i u)[0]? = some (.string s.1)) (h1 : (cur.setIfInBounds i u)[1]? = some (.string s.2)) (hz : s.1.size ≤ 1000 ∧ s.2.size ≤ 1000) (hm : envMay [s] exV = r) : MayIs bE y (some ⟨g, 0, none⟩) 1 c r (Y.setCell ⟨g, i, none⟩ u) := by
 obtain ⟨v1, v2⟩ := ex1_set (i := i) (u := u) hva hb hK
 exact mayIs_of (hE.set_far hne i u) v1 (sig1_at v2 h0 h1) rfl (by decide) (fun t ht => by rw [List.mem_singleton.1 ht]; exact hz) hm
set_option maxHeartbeats 32000000 in
theorem signNames_walk (w : World) (henv : NumEnv w) :
   Calls Tryz.prog 5 #[] w fun e w' => e = .returned (.bool true) ∧ Below w.heap.size w w' := by
 have HAW := Lib.hid (fun W (hb : Below w.heap.size w W) => awake16_any W (henv.below hb) (henv.below hb).1)
 have HEV : Hid (∀ W, Below w.heap.size w W → NumEnv W) := fun W hb => henv.below hb
 have HE32 : Hid (∀ W, Calls Tryz.prog 11 #[.int .i64 32] W fun e w' => ∃ (y : VC) (a : Option Addr) (c : Nat), e = .returned (envVal y a 32 c) ∧ Below W.heap.size W w' ∧ ValAt w' exV y.val ∧ SigsAt w' (.slice a 32 c) (List.replicate 32 exSig)) := fun W => ex16_bare 32 (by decide) W
 have HE33 : Hid (∀ W, Calls Tryz.prog 11 #[.int .i64 33] W fun e w' => ∃ (y : VC) (a : Option Addr) (c : Nat), e = .returned (envVal y a 33 c) ∧ Below W.heap.size W w' ∧ ValAt w' exV y.val ∧ SigsAt w' (.slice a 33 c) (List.replicate 33 exSig)) := fun W => ex16_bare 33 (by decide) W
 have HE0 : Hid (∀ W, Calls Tryz.prog 11 #[.int .i64 0] W fun e w' => ∃ (y : VC) (a : Option Addr) (c : Nat), e = .returned (envVal y a 0 c) ∧ Below W.heap.size W w' ∧ ValAt w' exV y.val ∧ SigsAt w' (.slice a 0 c) []) := fun W => ex16_bare 0 (by decide) W
 have HE1 : Hid (∀ W, Calls Tryz.prog 11 #[.int .i64 1] W (ExOwn 1 W)) := fun W => ex16_own 1 (by decide) W
 obtain ⟨ID, hID⟩ : ∃ x, idText 97 = x := ⟨_, rfl⟩
 have hIDs : ID.size = 64 := by rw [← hID]; rfl
 obtain ⟨I4, hI4⟩ : ∃ x, idText 48 = x := ⟨_, rfl⟩
 have hI4s : I4.size = 64 := by rw [← hI4]; rfl
 obtain ⟨I10, hI10⟩ : ∃ x, idText 102 = x := ⟨_, rfl⟩
 have hI10s : I10.size = 64 := by rw [← hI10]; rfl
 obtain ⟨I6, hI6⟩ : ∃ x, idText 65 = x := ⟨_, rfl⟩
 have hI6s : I6.size = 64 := by rw [← hI6]; rfl
 have HI97 : Hid (∀ W, Calls Tryz.prog 12 #[.int .u8 97] W fun e w' => e = .returned (.string ID) ∧ Below W.heap.size W w') := fun W => by rw [← hID]; exact id16_any 97 W
 have HI48 : Hid (∀ W, Calls Tryz.prog 12 #[.int .u8 48] W fun e w' => e = .returned (.string I4) ∧ Below W.heap.size W w') := fun W => by rw [← hI4]; exact id16_any 48 W
 have HI102 : Hid (∀ W, Calls Tryz.prog 12 #[.int .u8 102] W fun e w' => e = .returned (.string I10) ∧ Below W.heap.size W w') := fun W => by rw [← hI10]; exact id16_any 102 W
 have HI65 : Hid (∀ W, Calls Tryz.prog 12 #[.int .u8 65] W fun e w' => e = .returned (.string I6) ∧ Below W.heap.size W w') := fun W => by rw [← hI6]; exact id16_any 65 W
 have HID := Lib.hid hID
 have HI4 := Lib.hid hI4
 have HI10 := Lib.hid hI10
 have HI6 := Lib.hid hI6
 clear hID hI4 hI10 hI6 henv
 go_enter Tryz.func5, Tryz.ntmps5
 go_wp2_with fail
 refine (HAW.out _ (Below.refl _ _)).mono ?_
 rintro e w1 ⟨rfl, hb1⟩
 have HB1 := Lib.hid hb1
 clear hb1
 go_wp2_with fail
 refine (HE32.out _).mono ?_
 rintro e w2 ⟨y2, a2, c2, rfl, hb2, hv2, hs2⟩
 have HB2 := Lib.hid (below_more HB1.out hb2)
 have HM2 := Lib.hid (sMay_any exV (List.replicate 32 exSig) y2 a2 32 c2 w2 (List.length_replicate) hv2 hs2 (by decide) (exSigs_sz 32) (exSigs_szm 32) true ex32_may)
 clear hb2 hv2 hs2
 go_wp2_with fail
 refine HM2.out.mono ?_
 rintro e w3 ⟨rfl, hb3⟩
 have HB3 := Lib.hid (below_more HB2.out hb3)
 clear hb3 HM2
 go_wp2_with fail
 refine (HE33.out _).mono ?_
 rintro e w4 ⟨y4, a4, c4, rfl, hb4, hv4, hs4⟩
 have HB4 := Lib.hid (below_more HB3.out hb4)
 have HM4 := Lib.hid (sMay_any exV (List.replicate 33 exSig) y4 a4 33 c4 w4 (List.length_replicate) hv4 hs4 (by decide) (exSigs_sz 33) (exSigs_szm 33) false ex33_may)
 clear hb4 hv4 hs4
 go_wp2_with fail
 refine HM4.out.mono ?_
 rintro e w5 ⟨rfl, hb5⟩
 have HB5 := Lib.hid (below_more HB4.out hb5)
 clear hb5 HM4 HB1 HB2 HB3 HB4 HE32 HE33
 go_wp2_with fail
 refine (HI97.out _).mono ?_
 rintro e w6 ⟨rfl, hb6⟩
 have HB6 := Lib.hid (below_more HB5.out hb6)
 clear hb6 HB5
 go_wp2_with fail
 obtain ⟨A, hA⟩ : ∃ A : ByteArray, (⟨#[34]⟩ ++ ID) ++ ⟨#[34]⟩ = A := ⟨_, rfl⟩
 rw [hA]
 have hAs : A.size = 66 := by
   rw [← hA, ByteArray.size_append, ByteArray.size_append, hIDs]
   rfl
 obtain ⟨O, hO⟩ : ∃ O : ByteArray, ((⟨#[123, 34, 107, 101, 121, 105, 100, 34, 58]⟩ ++ A) ++ ⟨#[44, 34, 115, 105, 103, 34, 58, 34, 48, 48, 34, 125]⟩) = O := ⟨_, rfl⟩
 rw [hO]
 have hOs : O.size = 87 := by
   rw [← hO, ByteArray.size_append, ByteArray.size_append, hAs]
   rfl
 have HA := Lib.hid hA
 have HO := Lib.hid hO
 clear hA hO
 go_loop [3, 4] (fun m i => ∃ k : Nat, k ≤ 32 ∧ i = .int .i64 k ∧ m = .string (nMany O k)) (fun _ i => 32 - (intOf i).toNat)
 case atStart => exact ⟨0, by omega, rfl, rfl⟩
 case round =>
   obtain ⟨k, hk, rfl, rfl⟩ := hrel
   obtain ⟨M, hM⟩ : ∃ M, nMany O k = M := ⟨_, rfl⟩
   have hMs : M.size = 87 + k * 88 := by rw [← hM, nMany_size, hOs]
   rw [hM]
   have HM := Lib.hid hM
   clear hM
   by_cases hk32 : k < 32
   · have i1 : (k : Int) < 32 := by omega
     go_wp2_with fail
     exact ⟨⟨k + 1, by omega, by go_num, by rw [nMany, HM.out]⟩, by simp [intOf]; omega⟩
   · have i1 : ¬ (k : Int) < 32 := by omega
     obtain rfl : k = 32 := by omega
     obtain ⟨cs, hcs⟩ : ∃ cs : Array Value, #[.string ⟨#[]⟩, .int .i64 4, .string ⟨#[91, 93]⟩, .int .i64 10, .string ⟨#[123, 125]⟩, .int .i64 6, .string ⟨#[123, 34, 115, 105, 103, 110, 101, 100, 34, 58, 123, 125, 125]⟩, .int .i64 6, .string ⟨#[123, 34, 115, 105, 103, 110, 97, 116, 117, 114, 101, 115, 34, 58, 91, 93, 125]⟩, .int .i64 6, .string ⟨#[123, 34, 115, 105, 103, 110, 97, 116, 117, 114, 101, 115, 34, 58, 123, 125, 44, 34, 115, 105, 103, 110, 101, 100, 34, 58, 123, 125, 125]⟩, .int .i64 10, .string ⟨#[123, 34, 115, 105, 103, 110, 97, 116, 117, 114, 101, 115, 34, 58, 91, 93, 44, 34, 115, 105, 103, 110, 101, 100, 34, 58, 123, 125, 44, 34, 120, 34, 58, 49, 125]⟩, .int .i64 11, .string ⟨#[123, 34, 115, 105, 103, 110, 97, 116, 117, 114, 101, 115, 34, 58, 91, 49, 93, 44, 34, 115, 105, 103, 110, 101, 100, 34, 58, 123, 125, 125]⟩, .int .i64 10, .string ⟨#[123, 34, 115, 105, 103, 110, 97, 116, 117, 114, 101, 115, 34, 58, 91, 123, 125, 93, 44, 34, 115, 105, 103, 110, 101, 100, 34, 58, 49, 125]⟩, .int .i64 6, .string ((⟨#[123, 34, 115, 105, 103, 110, 97, 116, 117, 114, 101, 115, 34, 58, 91, 123, 34, 107, 101, 121, 105, 100, 34, 58]⟩ ++ A) ++ ⟨#[125, 93, 44, 34, 115, 105, 103, 110, 101, 100, 34, 58, 123, 125, 125]⟩), .int .i64 6, .string ((⟨#[123, 34, 115, 105, 103, 110, 97, 116, 117, 114, 101, 115, 34, 58, 91, 123, 34, 107, 101, 121, 105, 100, 34, 58]⟩ ++ A) ++ ⟨#[44, 34, 115, 105, 103, 34, 58, 34, 48, 48, 48, 34, 125, 93, 44, 34, 115, 105, 103, 110, 101, 100, 34, 58, 123, 125, 125]⟩), .int .i64 3, .string ((⟨#[123, 34, 115, 105, 103, 110, 97, 116, 117, 114, 101, 115, 34, 58, 91, 123, 34, 107, 101, 121, 105, 100, 34, 58]⟩ ++ A) ++ ⟨#[44, 34, 115, 105, 103, 34, 58, 34, 34, 125, 93, 44, 34, 115, 105, 103, 110, 101, 100, 34, 58, 123, 125, 125]⟩), .int .i64 3, .string ⟨#[123, 34, 115, 105, 103, 110, 97, 116, 117, 114, 101, 115, 34, 58, 91, 123, 34, 107, 101, 121, 105, 100, 34, 58, 34, 97, 97, 34, 44, 34, 115, 105, 103, 34, 58, 34, 48, 48, 34, 125, 93, 44, 34, 115, 105, 103, 110, 101, 100, 34, 58, 123, 125, 125]⟩, .int .i64 3, .string ((⟨#[123, 34, 115, 105, 103, 110, 97, 116, 117, 114, 101, 115, 34, 58, 91, 123, 34, 107, 101, 121, 105, 100, 34, 58]⟩ ++ A) ++ ⟨#[44, 34, 115, 105, 103, 34, 58, 34, 48, 48, 34, 44, 34, 120, 34, 58, 49, 125, 93, 44, 34, 115, 105, 103, 110, 101, 100, 34, 58, 123, 125, 125]⟩), .int .i64 11, .string ((⟨#[123, 34, 115, 105, 103, 110, 97, 116, 117, 114, 101, 115, 34, 58, 91, 123, 34, 107, 101, 121, 105, 100, 34, 58]⟩ ++ A) ++ ⟨#[44, 34, 115, 105, 103, 34, 58, 55, 125, 93, 44, 34, 115, 105, 103, 110, 101, 100, 34, 58, 123, 125, 125]⟩), .int .i64 10, .string ((⟨#[123, 34, 115, 105, 103, 110, 97, 116, 117, 114, 101, 115, 34, 58, 91]⟩ ++ M) ++ ⟨#[93, 44, 34, 115, 105, 103, 110, 101, 100, 34, 58, 49, 125]⟩), .int .i64 5, .string ((⟨#[123, 34, 115, 105, 103, 110, 97, 116, 117, 114, 101, 115, 34, 58, 91]⟩ ++ O) ++ ⟨#[93, 44, 34, 115, 105, 103, 110, 101, 100, 34, 58, 49, 125]⟩), .int .i64 10, .string ((((⟨#[123, 34, 115, 105, 103, 110, 97, 116, 117, 114, 101, 115, 34, 58, 91]⟩ ++ O) ++ ⟨#[44]⟩) ++ O) ++ ⟨#[93, 44, 34, 115, 105, 103, 110, 101, 100, 34, 58, 123, 125, 125]⟩), .int .i64 0, .string ⟨#[123, 34, 115, 105, 103, 110, 101, 100, 34, 58, 123, 125, 44, 34, 115, 105, 103, 110, 97, 116, 117, 114, 101, 115, 34, 58, 91, 93, 125, 32]⟩, .int .i64 0, .string ⟨#[123, 34, 115, 105, 103, 110, 101, 100, 34, 58, 123, 125, 44, 34, 115, 105, 103, 110, 97, 116, 117, 114, 101, 115, 34, 58, 91, 93, 125, 120]⟩, .int .i64 3, .string ⟨#[123, 34, 115, 105, 103, 110, 101, 100, 34, 58, 123, 125, 44, 34, 115, 105, 103, 110, 97, 116, 117, 114, 101, 115, 34, 58, 91, 93, 125, 44]⟩, .int .i64 11] = cs := ⟨_, rfl⟩
     have hcl : cs.toList = cellsL (rowsN A O M) := by rw [← hcs]; rfl
     go_wp2_with fail
     have HK : Hid (BlkAt (w6.alloc (.cells cs 40)) w6.heap.size 40 cs) := blkAt_new w6 cs _
     have HBW : Hid (Below w.heap.size w (w6.alloc (.cells cs 40))) := bel_alloc HB6.out _
     generalize w6.alloc (.cells cs 40) = W at HK HBW ⊢
     obtain ⟨bR, hbR⟩ : ∃ b, w6.heap.size = b := ⟨_, rfl⟩
     rw [hbR] at HK ⊢
     have HCL := Lib.hid hcl
     have HOK : Hid (∀ p ∈ rowsN A O M, rowOk p = true) := fun p hp => by
       have h1 : A = nA := by rw [← HA.out, ← HID.out]; rfl
       have h2 : O = nOne nA := by rw [← HO.out, h1]; rfl
       have h3 : M = nMany (nOne nA) 32 := by rw [← HM.out, h2]
       rw [h1, h2, h3] at hp
       exact List.all_eq_true.1 rowsN_ok p hp
     have HSZ : Hid (∀ p ∈ rowsN A O M, p.1.size ≤ 9223372036854775807) := fun p hp => by
       have h1 : A = nA := by rw [← HA.out, ← HID.out]; rfl
       have h2 : O = nOne nA := by rw [← HO.out, h1]; rfl
       have h3 : M = nMany (nOne nA) 32 := by rw [← HM.out, h2]
       rw [h1, h2, h3] at hp
       exact of_decide_eq_true (List.all_eq_true.1 (show (rowsN nA (nOne nA) (nMany (nOne nA) 32)).all (fun p => decide (p.1.size ≤ 9223372036854775807)) = true by kernel_rfl) p hp)
     have HSM : Hid (∀ Y, Calls Tryz.prog 9 #[.agg #[.int .u8 0, .int .i64 0, .string ⟨#[]⟩, .slice none 0 0, .slice none 0 0, .slice none 0 0], .agg #[.int .u8 0, .int .i64 0, .string ⟨#[]⟩, .slice none 0 0, .slice none 0 0, .slice none 0 0]] Y fun e w' => e = .returned (.bool true) ∧ Below Y.heap.size Y w') :=
       fun Y => same16_yes zJ [] zC zC none none 0 0 0 Y rfl (valAt_z Y) (valAt_z Y) ⟨none, 0, rfl, fun i s h => by simp at h⟩ ⟨none, 0, rfl, fun i s h => by simp at h⟩ (by decide)
     clear hcs hcl hbR HB6
     go_loopw [96] (fun i wr => ∃ q : Nat, q ≤ 21 ∧ i = .int .i64 q ∧ Hid (Below W.heap.size W wr)) (fun i _ => 21 - (intOf i).toNat)
     case atStart => exact ⟨0, by omega, rfl, Below.refl _ _⟩
     case round =>
       obtain ⟨q, hq, rfl, HBr⟩ := hrel
       by_cases hq21 : q < 21
       · obtain ⟨⟨s, er⟩, hp⟩ : ∃ p, (rowsN A O M)[q]? = some p := ⟨_, List.getElem?_eq_getElem (by rw [rowsN_len]; exact hq21)⟩
         have hok := HOK.out _ (List.mem_of_getElem? hp)
         have hsz := HSZ.out _ (List.mem_of_getElem? hp)
         obtain ⟨hc0, hc1⟩ := cellsL_get _ q _ hp
         rw [← HCL.out, Array.getElem?_toList] at hc0 hc1
         have p0 : wr.cell? ⟨bR, q * 2, none⟩ = some (.string s) := cell_keep HBr.out ((HK.out.cell _).trans hc0)
         have p1 : wr.cell? ⟨bR, q * 2 + 1, none⟩ = some (.int .i64 er) := cell_keep HBr.out ((HK.out.cell _).trans hc1)
         have i0' : (0 : Int) ≤ (q : Int) := by omega
         have i1' : (q : Int) < 21 := by omega
         have HRD := Lib.hid (fun Y (hb : Below w.heap.size w Y) => pRead_any s Y hsz (HEV.out Y hb))
         have HBr2 := Lib.hid (bel_alloc (below_more HBW.out HBr.out) (.cells #[.string s, .int .i64 er] 40))
         have HBr3 := Lib.hid (bel_alloc HBr.out (.cells #[.string s, .int .i64 er] 40))
         have HKr : Hid (BlkAt (wr.alloc (.cells #[.string s, .int .i64 er] 40)) wr.heap.size 40 #[.string s, .int .i64 er]) := blkAt_new wr _ _
         unfold rowOk at hok
         simp only at hok
         obtain ⟨R, hR⟩ : ∃ R, envT s.data.toList = R := ⟨_, rfl⟩
         rw [hR] at HRD hok
         clear hp hsz hc0 hc1 hR HOK HSZ
         go_wp2_with fail
         generalize wr.alloc (.cells #[.string s, .int .i64 er] 40) = w8 at HBr2 HBr3 HKr ⊢
         generalize wr.heap.size = b8 at HKr ⊢
         refine (HRD.out _ HBr2.out).mono ?_
         cases R with
         | bad e0 =>
           simp only [Bool.and_eq_true, bne_iff_ne, beq_iff_eq] at hok
           obtain ⟨he0, rfl⟩ := hok
           rintro e w9 ⟨hb9, rfl, -⟩
           have hne : (e0 != e0) = false := by simp
           have hn0 : (e0 != 0) = true := by rw [bne_iff_ne]; exact he0
           have HB9 := Lib.hid (bel_alloc (below_more HBr3.out hb9) (.cells #[.int .u8 0, .int .i64 0, .string ⟨#[]⟩, .slice none 0 0, .slice none 0 0, .slice none 0 0] 29))
           obtain ⟨k0, k1, kf⟩ := b2 (BlkAt.keep HKr.out (bel_alloc hb9 (.cells #[.int .u8 0, .int .i64 0, .string ⟨#[]⟩, .slice none 0 0, .slice none 0 0, .slice none 0 0] 29)))
           have HK9 : Hid (BlkAt (w9.alloc (.cells #[.int .u8 0, .int .i64 0, .string ⟨#[]⟩, .slice none 0 0, .slice none 0 0, .slice none 0 0] 29)) w9.heap.size 29 #[.int .u8 0, .int .i64 0, .string ⟨#[]⟩, .slice none 0 0, .slice none 0 0, .slice none 0 0]) := blkAt_new w9 _ _
           clear hb9 he0 HRD
           simp only [zEnv]
           go_wp2_with fail
           refine (HSM.out _).mono ?_
           rintro e w10 ⟨rfl, hb10⟩
           have HB10 := Lib.hid (below_more HB9.out hb10)
           clear hb10
           go_wp2_with fail
           exact ⟨⟨q + 1, by omega, by go_num, HB10⟩, by simp [intOf]; omega⟩
         | ok x =>
           simp only [Bool.and_eq_true, beq_iff_eq, decide_eq_true_eq] at hok
           obtain ⟨rfl, -⟩ := hok
           rintro e w9 ⟨hb9, ⟨yk, yn, yt, ya, yl, yc, yb, ym, ye⟩, a9, c9, rfl, -, -⟩
           have HB9 := Lib.hid (bel_alloc (below_more HBr3.out hb9) (.cells #[.int .u8 yk, .int .i64 yn, .string yt, .slice ya yl yc, .slice yb ym ye, .slice a9 x.1.length c9] 29))
           obtain ⟨k0, k1, kf⟩ := b2 (BlkAt.keep HKr.out (bel_alloc hb9 (.cells #[.int .u8 yk, .int .i64 yn, .string yt, .slice ya yl yc, .slice yb ym ye, .slice a9 x.1.length c9] 29)))
           clear hb9 HRD
           simp only [envVal]
           go_wp2_with fail
           refine ⟨?_, by simp [intOf]; omega⟩
           repeat apply Exists.intro
           · refine ⟨⟨q + 1, by omega, ?ee, HB9⟩, ?ff⟩
             case ff => rfl
             case ee => go_num
       · have i1' : ¬ (q : Int) < 21 := by omega
         have HBe := Lib.hid (below_more HBW.out HBr.out)
         clear HK HCL HOK HSZ HSM HBr HBW HI97 HEV HAW HA HO HM hAs hOs hMs
         go_wp2_with fail
         refine (HE1.out _).mono ?_
         intro e wa1 hea
         obtain ⟨yk1, yn1, yt1, ya1, yl1, yc1, yb1, ym1, ye1, g1, c1, cur1, rfl, hba, hg1, hK1, hcs1, hc0, hc1, hva⟩ := ex1_parts hea
         clear hea
         have HBa1 := Lib.hid (below_more HBe.out hba)
         simp only [envVal]
         go_wp2_with fail
         have HKE1 : Hid (BlkAt (wa1.alloc (.cells #[.int .u8 yk1, .int .i64 yn1, .string yt1, .slice ya1 yl1 yc1, .slice yb1 ym1 ye1, .slice (some ⟨g1, 0, none⟩) 1 c1] 29)) wa1.heap.size 29 #[.int .u8 yk1, .int .i64 yn1, .string yt1, .slice ya1 yl1 yc1, .slice yb1 ym1 ye1, .slice (some ⟨g1, 0, none⟩) 1 c1]) := blkAt_new wa1 _ _
         have hbA : Below wa1.heap.size wa1 (wa1.alloc (.cells #[.int .u8 yk1, .int .i64 yn1, .string yt1, .slice ya1 yl1 yc1, .slice yb1 ym1 ye1, .slice (some ⟨g1, 0, none⟩) 1 c1] 29)) := bel_alloc (Below.refl _ _) _
         have hgl := hK1.lt
         generalize wa1.alloc (.cells #[.int .u8 yk1, .int .i64 yn1, .string yt1, .slice ya1 yl1 yc1, .slice yb1 ym1 ye1, .slice (some ⟨g1, 0, none⟩) 1 c1] 29) = wA1 at HKE1 hbA ⊢
         have hne : g1 ≠ wa1.heap.size := by omega
         obtain ⟨b1, hb1⟩ : ∃ b, wa1.heap.size = b := ⟨_, rfl⟩
         rw [hb1] at HKE1 hne ⊢
         obtain ⟨k0, k1, k2, k3, k4, k5, kf⟩ := b6' HKE1.out
         refine wp_region_any (by kernel_rfl) ?_
         refine wpAny_pure (i := 0) (v := .pointer (some ⟨b1, 5, none⟩)) rfl (by kernel_rfl) (by kernel_rfl) (by kernel_rfl) (fun _ _ _ h => h) (Or.inl ⟨by rfl, fun Y => by go_simp⟩) ?_
         simp only [Act.put, List.setIfInBounds_toArray, List.set_cons_zero, List.set_cons_succ]
         refine wpAny_puts [(1, some 123), (2, some 124), (3, some 125), (4, some 126)] 5 [6, 7] (by kernel_rfl) (by kernel_rfl) (of_decide_eq_true (by kernel_rfl)) (fun w' => Below wA1.heap.size wA1 w') (namD (.slice (some ⟨g1, 0, none⟩) 1 c1) (I4) (I10) (I4 ++ I10) (⟨#[]⟩)) namD_keep (bel_drew (Below.refl _ _)) ?_ ?_
         · refine PutSteps.at rfl (fun vs Y hG hdep K hK => ?_) ?_
           · simp only [putsOf, List.foldl_cons, List.foldl_nil, Act.put, List.setIfInBounds_toArray, List.set_cons_zero, List.set_cons_succ] at hK ⊢
             have y5 := cell_keep hG k5
             go_simp
             exact hK.out (.slice (some ⟨g1, 0, none⟩) 1 c1) _ _ rfl hG (Below.refl _ _) rfl
           refine PutSteps.at rfl (fun vs Y hG hdep K hK => ?_) ?_
           · simp only [putsOf, List.foldl_cons, List.foldl_nil, Act.put, List.setIfInBounds_toArray, List.set_cons_zero, List.set_cons_succ] at hK ⊢
             go_simp
             refine (HI48.out _).mono ?_
             rintro e w4 ⟨rfl, hb4⟩
             exact hK.out (.string I4) _ _ rfl (below_more hG hb4) hb4 rfl
           refine PutSteps.at rfl (fun vs Y hG hdep K hK => ?_) ?_
           · simp only [putsOf, List.foldl_cons, List.foldl_nil, Act.put, List.setIfInBounds_toArray, List.set_cons_zero, List.set_cons_succ] at hK ⊢
             go_simp
             refine (HI102.out _).mono ?_
             rintro e w4 ⟨rfl, hb4⟩
             exact hK.out (.string I10) _ _ rfl (below_more hG hb4) hb4 rfl
           refine PutSteps.at rfl (fun vs Y hG hdep K hK => ?_) PutSteps.nil
           · have e2 : vs 2 = .string (I4) := hdep 2 rfl (by kernel_rfl)
             have e3 : vs 3 = .string (I10) := hdep 3 rfl (by kernel_rfl)
             simp only [putsOf, List.foldl_cons, List.foldl_nil, Act.put, List.setIfInBounds_toArray, List.set_cons_zero, List.set_cons_succ] at hK ⊢
             rw [e2, e3] at hK ⊢
             go_simp
             exact hK.out (.string (I4 ++ I10)) _ _ rfl hG (Below.refl _ _) rfl
         · intro vs Y hG hdep
           have e1 : vs 1 = .slice (some ⟨g1, 0, none⟩) 1 c1 := hdep 1 rfl
           have e2 : vs 4 = .string (I4 ++ I10) := hdep 4 rfl
           have hbY : Below wa1.heap.size wa1 Y := below_more hbA hG
           have hKY := hK1.keep hbY
           have uc : Y.cell? ⟨g1, 1, none⟩ = some (.string ⟨#[48, 48, 102, 102]⟩) := (hKY.cell 1).trans hc1
           have uf := hKY.free
           simp only [putsOf, List.foldl_cons, List.foldl_nil, Act.put, List.setIfInBounds_toArray, List.set_cons_zero, List.set_cons_succ]
           simp only [List.filterMap_cons, List.filterMap_nil, nthO]
           rw [e1, e2]
           refine wpList_plain rfl fun K hK => ?_
           go_simp
           refine hK _ _ ?_
           refine wpList_plain rfl fun K hK => ?_
           go_simp
           refine hK _ _ ?_
           refine wpList_plain rfl fun K hK => ?_
           go_simp
           refine hK _ _ ?_
           refine wpList_nil ?_
           have HM1 : Hid (MayIs b1 ⟨yk1, yn1, yt1, ya1, yl1, yc1, yb1, ym1, ye1⟩ (some ⟨g1, 0, none⟩) 1 c1 true (Y.setCell ⟨g1, 1, none⟩ (.string (I4 ++ I10)))) := mayIs_one (idText 97, I4 ++ I10) hva hK1 hbY (HKE1.out.keep hG) hne (by rw [Array.getElem?_setIfInBounds_ne (by decide)]; exact hc0) (by rw [Array.getElem?_setIfInBounds_self_of_lt (by omega)]) (by exact ⟨by show (idText 97).size ≤ 1000; decide, by show (I4 ++ I10).size ≤ 1000; rw [ByteArray.size_append]; omega⟩) (by rw [← HI4.out, ← HI10.out]; exact long_may)
           have hbS : Below wr.heap.size wr (Y.setCell ⟨g1, 1, none⟩ (.string (I4 ++ I10))) := bel_set (below_more hba hbY) (p := ⟨g1, 1, none⟩) hg1 _
           have HBq1 := Lib.hid (below_more HBe.out hbS)
           clear hbS hva hKY uc uf hK1 hbY hbA hba hG hdep e1 e2 k0 k1 k2 k3 k4 k5 kf hc0 hc1 hgl hne HKE1 HBa1 hg1 hcs1 hb1
           go_simp
           generalize Y.setCell ⟨g1, 1, none⟩ (.string (I4 ++ I10)) = wq1 at HM1 HBq1 ⊢
           go_wp2_with fail
           refine (HE1.out _).mono ?_
           intro e wa2 hea
           obtain ⟨yk2, yn2, yt2, ya2, yl2, yc2, yb2, ym2, ye2, g2, c2, cur2, rfl, hba, hg2, hK2, hcs2, hc0, hc1, hva⟩ := ex1_parts hea
           clear hea
           have HBa2 := Lib.hid (below_more HBq1.out hba)
           simp only [envVal]
           go_wp2_with fail
           have HKE2 : Hid (BlkAt (wa2.alloc (.cells #[.int .u8 yk2, .int .i64 yn2, .string yt2, .slice ya2 yl2 yc2, .slice yb2 ym2 ye2, .slice (some ⟨g2, 0, none⟩) 1 c2] 29)) wa2.heap.size 29 #[.int .u8 yk2, .int .i64 yn2, .string yt2, .slice ya2 yl2 yc2, .slice yb2 ym2 ye2, .slice (some ⟨g2, 0, none⟩) 1 c2]) := blkAt_new wa2 _ _
           have hbA : Below wa2.heap.size wa2 (wa2.alloc (.cells #[.int .u8 yk2, .int .i64 yn2, .string yt2, .slice ya2 yl2 yc2, .slice yb2 ym2 ye2, .slice (some ⟨g2, 0, none⟩) 1 c2] 29)) := bel_alloc (Below.refl _ _) _
           have hgl := hK2.lt
           generalize wa2.alloc (.cells #[.int .u8 yk2, .int .i64 yn2, .string yt2, .slice ya2 yl2 yc2, .slice yb2 ym2 ye2, .slice (some ⟨g2, 0, none⟩) 1 c2] 29) = wA2 at HKE2 hbA ⊢
           have hne : g2 ≠ wa2.heap.size := by omega
           obtain ⟨b2, hb2⟩ : ∃ b, wa2.heap.size = b := ⟨_, rfl⟩
           rw [hb2] at HKE2 hne ⊢
           obtain ⟨k0, k1, k2, k3, k4, k5, kf⟩ := b6' HKE2.out
           refine wp_region_any (by kernel_rfl) ?_
           refine wpAny_pure (i := 0) (v := .pointer (some ⟨b2, 5, none⟩)) rfl (by kernel_rfl) (by kernel_rfl) (by kernel_rfl) (fun _ _ _ h => h) (Or.inl ⟨by rfl, fun Y => by go_simp⟩) ?_
           simp only [Act.put, List.setIfInBounds_toArray, List.set_cons_zero, List.set_cons_succ]
           refine wpAny_puts [(1, some 131), (2, some 132), (3, some 133), (4, some 134), (5, some 135)] 6 [7, 8] (by kernel_rfl) (by kernel_rfl) (of_decide_eq_true (by kernel_rfl)) (fun w' => Below wA2.heap.size wA2 w') (namD (.slice (some ⟨g2, 0, none⟩) 1 c2) (I4) (I10) (I4 ++ I10) ((I4 ++ I10) ++ (⟨#[48, 48]⟩ : ByteArray))) namD_keep (bel_drew (Below.refl _ _)) ?_ ?_
           · refine PutSteps.at rfl (fun vs Y hG hdep K hK => ?_) ?_
             · simp only [putsOf, List.foldl_cons, List.foldl_nil, Act.put, List.setIfInBounds_toArray, List.set_cons_zero, List.set_cons_succ] at hK ⊢
               have y5 := cell_keep hG k5
               go_simp
               exact hK.out (.slice (some ⟨g2, 0, none⟩) 1 c2) _ _ rfl hG (Below.refl _ _) rfl
             refine PutSteps.at rfl (fun vs Y hG hdep K hK => ?_) ?_
             · simp only [putsOf, List.foldl_cons, List.foldl_nil, Act.put, List.setIfInBounds_toArray, List.set_cons_zero, List.set_cons_succ] at hK ⊢
               go_simp
               refine (HI48.out _).mono ?_
               rintro e w4 ⟨rfl, hb4⟩
               exact hK.out (.string I4) _ _ rfl (below_more hG hb4) hb4 rfl
             refine PutSteps.at rfl (fun vs Y hG hdep K hK => ?_) ?_
             · simp only [putsOf, List.foldl_cons, List.foldl_nil, Act.put, List.setIfInBounds_toArray, List.set_cons_zero, List.set_cons_succ] at hK ⊢
               go_simp
               refine (HI102.out _).mono ?_
               rintro e w4 ⟨rfl, hb4⟩
               exact hK.out (.string I10) _ _ rfl (below_more hG hb4) hb4 rfl
             refine PutSteps.at rfl (fun vs Y hG hdep K hK => ?_) ?_
             · have e2 : vs 2 = .string (I4) := hdep 2 rfl (by kernel_rfl)
               have e3 : vs 3 = .string (I10) := hdep 3 rfl (by kernel_rfl)
               simp only [putsOf, List.foldl_cons, List.foldl_nil, Act.put, List.setIfInBounds_toArray, List.set_cons_zero, List.set_cons_succ] at hK ⊢
               rw [e2, e3] at hK ⊢
               go_simp
               exact hK.out (.string (I4 ++ I10)) _ _ rfl hG (Below.refl _ _) rfl
             refine PutSteps.at rfl (fun vs Y hG hdep K hK => ?_) PutSteps.nil
             · have e4 : vs 4 = .string (I4 ++ I10) := hdep 4 rfl (by kernel_rfl)
               simp only [putsOf, List.foldl_cons, List.foldl_nil, Act.put, List.setIfInBounds_toArray, List.set_cons_zero, List.set_cons_succ] at hK ⊢
               rw [e4] at hK ⊢
               go_simp
               exact hK.out (.string ((I4 ++ I10) ++ (⟨#[48, 48]⟩ : ByteArray))) _ _ rfl hG (Below.refl _ _) rfl
           · intro vs Y hG hdep
             have e1 : vs 1 = .slice (some ⟨g2, 0, none⟩) 1 c2 := hdep 1 rfl
             have e2 : vs 5 = .string ((I4 ++ I10) ++ (⟨#[48, 48]⟩ : ByteArray)) := hdep 5 rfl
             have hbY : Below wa2.heap.size wa2 Y := below_more hbA hG
             have hKY := hK2.keep hbY
             have uc : Y.cell? ⟨g2, 1, none⟩ = some (.string ⟨#[48, 48, 102, 102]⟩) := (hKY.cell 1).trans hc1
             have uf := hKY.free
             simp only [putsOf, List.foldl_cons, List.foldl_nil, Act.put, List.setIfInBounds_toArray, List.set_cons_zero, List.set_cons_succ]
             simp only [List.filterMap_cons, List.filterMap_nil, nthO]
             rw [e1, e2]
             refine wpList_plain rfl fun K hK => ?_
             go_simp
             refine hK _ _ ?_
             refine wpList_plain rfl fun K hK => ?_
             go_simp
             refine hK _ _ ?_
             refine wpList_plain rfl fun K hK => ?_
             go_simp
             refine hK _ _ ?_
             refine wpList_nil ?_
             have HM2 : Hid (MayIs b2 ⟨yk2, yn2, yt2, ya2, yl2, yc2, yb2, ym2, ye2⟩ (some ⟨g2, 0, none⟩) 1 c2 false (Y.setCell ⟨g2, 1, none⟩ (.string ((I4 ++ I10) ++ (⟨#[48, 48]⟩ : ByteArray))))) := mayIs_one (idText 97, (I4 ++ I10) ++ (⟨#[48, 48]⟩ : ByteArray)) hva hK2 hbY (HKE2.out.keep hG) hne (by rw [Array.getElem?_setIfInBounds_ne (by decide)]; exact hc0) (by rw [Array.getElem?_setIfInBounds_self_of_lt (by omega)]) (by exact ⟨by show (idText 97).size ≤ 1000; decide, by show ((I4 ++ I10) ++ (⟨#[48, 48]⟩ : ByteArray) : ByteArray).size ≤ 1000; rw [ByteArray.size_append, ByteArray.size_append, hI4s, hI10s]; decide⟩) (by rw [← HI4.out, ← HI10.out]; exact past_may)
             have hbS : Below wq1.heap.size wq1 (Y.setCell ⟨g2, 1, none⟩ (.string ((I4 ++ I10) ++ (⟨#[48, 48]⟩ : ByteArray)))) := bel_set (below_more hba hbY) (p := ⟨g2, 1, none⟩) hg2 _
             have HBq2 := Lib.hid (below_more HBq1.out hbS)
             have HM1 := Lib.hid (HM1.out.keep hbS)
             clear hbS hva hKY uc uf hK2 hbY hbA hba hG hdep e1 e2 k0 k1 k2 k3 k4 k5 kf hc0 hc1 hgl hne HKE2 HBa2 hg2 hcs2 hb2
             go_simp
             generalize Y.setCell ⟨g2, 1, none⟩ (.string ((I4 ++ I10) ++ (⟨#[48, 48]⟩ : ByteArray))) = wq2 at HM1 HM2 HBq2 ⊢
             go_wp2_with fail
             refine (HE1.out _).mono ?_
             intro e wa3 hea
             obtain ⟨yk3, yn3, yt3, ya3, yl3, yc3, yb3, ym3, ye3, g3, c3, cur3, rfl, hba, hg3, hK3, hcs3, hc0, hc1, hva⟩ := ex1_parts hea
             clear hea
             have HBa3 := Lib.hid (below_more HBq2.out hba)
             simp only [envVal]
             go_wp2_with fail
             have HKE3 : Hid (BlkAt (wa3.alloc (.cells #[.int .u8 yk3, .int .i64 yn3, .string yt3, .slice ya3 yl3 yc3, .slice yb3 ym3 ye3, .slice (some ⟨g3, 0, none⟩) 1 c3] 29)) wa3.heap.size 29 #[.int .u8 yk3, .int .i64 yn3, .string yt3, .slice ya3 yl3 yc3, .slice yb3 ym3 ye3, .slice (some ⟨g3, 0, none⟩) 1 c3]) := blkAt_new wa3 _ _
             have hbA : Below wa3.heap.size wa3 (wa3.alloc (.cells #[.int .u8 yk3, .int .i64 yn3, .string yt3, .slice ya3 yl3 yc3, .slice yb3 ym3 ye3, .slice (some ⟨g3, 0, none⟩) 1 c3] 29)) := bel_alloc (Below.refl _ _) _
             have hgl := hK3.lt
             generalize wa3.alloc (.cells #[.int .u8 yk3, .int .i64 yn3, .string yt3, .slice ya3 yl3 yc3, .slice yb3 ym3 ye3, .slice (some ⟨g3, 0, none⟩) 1 c3] 29) = wA3 at HKE3 hbA ⊢
             have hne : g3 ≠ wa3.heap.size := by omega
             obtain ⟨b3, hb3⟩ : ∃ b, wa3.heap.size = b := ⟨_, rfl⟩
             rw [hb3] at HKE3 hne ⊢
             obtain ⟨k0, k1, k2, k3, k4, k5, kf⟩ := b6' HKE3.out
             refine wp_region_any (by kernel_rfl) ?_
             refine wpAny_pure (i := 0) (v := .pointer (some ⟨b3, 5, none⟩)) rfl (by kernel_rfl) (by kernel_rfl) (by kernel_rfl) (fun _ _ _ h => h) (Or.inl ⟨by rfl, fun Y => by go_simp⟩) ?_
             simp only [Act.put, List.setIfInBounds_toArray, List.set_cons_zero, List.set_cons_succ]
             refine wpAny_puts [(1, some 140), (2, some 141)] 3 [4, 5] (by kernel_rfl) (by kernel_rfl) (of_decide_eq_true (by kernel_rfl)) (fun w' => Below wA3.heap.size wA3 w') (namD (.slice (some ⟨g3, 0, none⟩) 1 c3) (I6) (⟨#[]⟩) (⟨#[]⟩) (⟨#[]⟩)) namD_keep (bel_drew (Below.refl _ _)) ?_ ?_
             · refine PutSteps.at rfl (fun vs Y hG hdep K hK => ?_) ?_
               · simp only [putsOf, List.foldl_cons, List.foldl_nil, Act.put, List.setIfInBounds_toArray, List.set_cons_zero, List.set_cons_succ] at hK ⊢
                 have y5 := cell_keep hG k5
                 go_simp
                 exact hK.out (.slice (some ⟨g3, 0, none⟩) 1 c3) _ _ rfl hG (Below.refl _ _) rfl
               refine PutSteps.at rfl (fun vs Y hG hdep K hK => ?_) PutSteps.nil
               · simp only [putsOf, List.foldl_cons, List.foldl_nil, Act.put, List.setIfInBounds_toArray, List.set_cons_zero, List.set_cons_succ] at hK ⊢
                 go_simp
                 refine (HI65.out _).mono ?_
                 rintro e w4 ⟨rfl, hb4⟩
                 exact hK.out (.string I6) _ _ rfl (below_more hG hb4) hb4 rfl
             · intro vs Y hG hdep
               have e1 : vs 1 = .slice (some ⟨g3, 0, none⟩) 1 c3 := hdep 1 rfl
               have e2 : vs 2 = .string (I6) := hdep 2 rfl
               have hbY : Below wa3.heap.size wa3 Y := below_more hbA hG
               have hKY := hK3.keep hbY
               have uc : Y.cell? ⟨g3, 0, none⟩ = some (.string (idText 97)) := (hKY.cell 0).trans hc0
               have uf := hKY.free
               simp only [putsOf, List.foldl_cons, List.foldl_nil, Act.put, List.setIfInBounds_toArray, List.set_cons_zero, List.set_cons_succ]
               simp only [List.filterMap_cons, List.filterMap_nil, nthO]
               rw [e1, e2]
               refine wpList_plain rfl fun K hK => ?_
               go_simp
               refine hK _ _ ?_
               refine wpList_plain rfl fun K hK => ?_
               go_simp
               refine hK _ _ ?_
               refine wpList_plain rfl fun K hK => ?_
               go_simp
               refine hK _ _ ?_
               refine wpList_nil ?_
               have HM3 : Hid (MayIs b3 ⟨yk3, yn3, yt3, ya3, yl3, yc3, yb3, ym3, ye3⟩ (some ⟨g3, 0, none⟩) 1 c3 false (Y.setCell ⟨g3, 0, none⟩ (.string (I6)))) := mayIs_one (I6, ⟨#[48, 48, 102, 102]⟩) hva hK3 hbY (HKE3.out.keep hG) hne (by rw [Array.getElem?_setIfInBounds_self_of_lt (by omega)]) (by rw [Array.getElem?_setIfInBounds_ne (by decide)]; exact hc1) (by exact ⟨by show I6.size ≤ 1000; rw [hI6s]; decide, by show (⟨#[48, 48, 102, 102]⟩ : ByteArray).size ≤ 1000; decide⟩) (by rw [← HI6.out]; exact upper_may)
               have hbS : Below wq2.heap.size wq2 (Y.setCell ⟨g3, 0, none⟩ (.string (I6))) := bel_set (below_more hba hbY) (p := ⟨g3, 0, none⟩) hg3 _
               have HBq3 := Lib.hid (below_more HBq2.out hbS)
               have HM1 := Lib.hid (HM1.out.keep hbS)
               have HM2 := Lib.hid (HM2.out.keep hbS)
               clear hbS hva hKY uc uf hK3 hbY hbA hba hG hdep e1 e2 k0 k1 k2 k3 k4 k5 kf hc0 hc1 hgl hne HKE3 HBa3 hg3 hcs3 hb3
               go_simp
               generalize Y.setCell ⟨g3, 0, none⟩ (.string (I6)) = wq3 at HM1 HM2 HM3 HBq3 ⊢
               clear HI48 HI102 HI65 HE1 HID HI4 HI10 HI6
               go_wp2_with fail
               refine (HE0.out _).mono ?_
               rintro e wa4 ⟨⟨yk4, yn4, yt4, ya4, yl4, yc4, yb4, ym4, ye4⟩, a4, c4, rfl, hb4, hv4, hs4⟩
               have HBa4 := Lib.hid (below_more HBq3.out hb4)
               have HM1 := Lib.hid (HM1.out.keep hb4)
               have HM2 := Lib.hid (HM2.out.keep hb4)
               have HM3 := Lib.hid (HM3.out.keep hb4)
               have HV4 := Lib.hid hv4
               have HS4 := Lib.hid hs4
               clear hb4 hv4 hs4
               simp only [envVal]
               go_wp2_with fail
               have HK4 : Hid (BlkAt (wa4.alloc (.cells #[.int .u8 4, .int .i64 yn4, .string yt4, .slice ya4 yl4 yc4, .slice yb4 ym4 ye4, .slice a4 0 c4] 29)) wa4.heap.size 29 #[.int .u8 4, .int .i64 yn4, .string yt4, .slice ya4 yl4 yc4, .slice yb4 ym4 ye4, .slice a4 0 c4]) := blkAt_new wa4 _ _
               have hbA : Below wa4.heap.size wa4 (wa4.alloc (.cells #[.int .u8 4, .int .i64 yn4, .string yt4, .slice ya4 yl4 yc4, .slice yb4 ym4 ye4, .slice a4 0 c4] 29)) := bel_alloc (Below.refl _ _) _
               obtain ⟨b4, hb4⟩ : ∃ b, wa4.heap.size = b := ⟨_, rfl⟩
               generalize wa4.alloc (.cells #[.int .u8 4, .int .i64 yn4, .string yt4, .slice ya4 yl4 yc4, .slice yb4 ym4 ye4, .slice a4 0 c4] 29) = wq4 at HK4 hbA ⊢
               have HV5 := Lib.hid (valAt_kind 4 (by decide) (by decide) (HV4.out.keep hbA))
               have HS5 := Lib.hid (HS4.out.keep hbA)
               have HM4 : Hid (MayIs b4 ⟨4, yn4, yt4, ya4, yl4, yc4, yb4, ym4, ye4⟩ a4 0 c4 false wq4) := mayIs_of (X := .mk 4 exV.n exV.t exV.names exV.items) (l := []) (by rw [← hb4]; exact HK4.out) HV5.out HS5.out rfl (by decide) (fun s hs => by cases hs) rfl
               have HBq4 := Lib.hid (below_more HBa4.out hbA)
               have HM1 := Lib.hid (HM1.out.keep hbA)
               have HM2 := Lib.hid (HM2.out.keep hbA)
               have HM3 := Lib.hid (HM3.out.keep hbA)
               rw [hb4]
               clear hbA hb4 HV4 HS4 HK4
               refine (HE0.out _).mono ?_
               rintro e wa5 ⟨⟨yk5, yn5, yt5, ya5, yl5, yc5, yb5, ym5, ye5⟩, a5, c5, rfl, hb5, hv5, hs5⟩
               have HBa5 := Lib.hid (below_more HBq4.out hb5)
               have HM1 := Lib.hid (HM1.out.keep hb5)
               have HM2 := Lib.hid (HM2.out.keep hb5)
               have HM3 := Lib.hid (HM3.out.keep hb5)
               have HM4 := Lib.hid (HM4.out.keep hb5)
               have HV5a := Lib.hid (HV5.out.keep hb5)
               have HS5a := Lib.hid (HS5.out.keep hb5)
               have HV6 := Lib.hid hv5
               have HS6 := Lib.hid hs5
               clear hb5 hv5 hs5
               simp only [envVal]
               go_wp2_with fail
               have hk6 : BlkAt ((wa5.alloc (.cells #[.int .u8 yk5, .int .i64 yn5, .string yt5, .slice (some ⟨wa5.heap.size + 1, 0, none⟩) 1 1, .slice yb5 ym5 ye5, .slice a5 0 c5] 29)).alloc (.cells #[.string ⟨#[255]⟩] 9)) (wa5.heap.size + 1) 9 #[.string ⟨#[255]⟩] := by
                 have := blkAt_new (wa5.alloc (.cells #[.int .u8 yk5, .int .i64 yn5, .string yt5, .slice (some ⟨wa5.heap.size + 1, 0, none⟩) 1 1, .slice yb5 ym5 ye5, .slice a5 0 c5] 29)) #[.string ⟨#[255]⟩] 9
                 rwa [size_al] at this
               have hbA : Below wa5.heap.size wa5 ((wa5.alloc (.cells #[.int .u8 yk5, .int .i64 yn5, .string yt5, .slice (some ⟨wa5.heap.size + 1, 0, none⟩) 1 1, .slice yb5 ym5 ye5, .slice a5 0 c5] 29)).alloc (.cells #[.string ⟨#[255]⟩] 9)) := bel_alloc (bel_alloc (Below.refl _ _) _) _
               obtain ⟨b5, hb5⟩ : ∃ b, wa5.heap.size + 1 = b := ⟨_, rfl⟩
               rw [hb5] at hk6 hbA ⊢
               generalize (wa5.alloc (.cells #[.int .u8 yk5, .int .i64 yn5, .string yt5, .slice (some ⟨b5, 0, none⟩) 1 1, .slice yb5 ym5 ye5, .slice a5 0 c5] 29)).alloc (.cells #[.string ⟨#[255]⟩] 9) = wq5 at hk6 hbA ⊢
               have hst : StrsAt wq5 (.slice (some ⟨b5, 0, none⟩) 1 1) [⟨#[255]⟩] := ⟨fun s hs => by rw [List.mem_singleton.1 hs]; decide, by decide, Or.inr ⟨b5, 0, 1, rfl, fun i s hs => by
                 cases i with
                 | zero => simp only [List.getElem?_cons_zero, Option.some.injEq] at hs; rw [← hs]; exact hk6.cell 0
                 | succ i => simp at hs⟩⟩
               have HVN := Lib.hid (sValue_no (.mk exV.k exV.n exV.t [⟨#[255]⟩] exV.items) [] ⟨yk5, yn5, yt5, some ⟨b5, 0, none⟩, 1, 1, yb5, ym5, ye5⟩ a5 0 c5 wq5 rfl (valAt_names hst (HV6.out.keep hbA)) (HS6.out.keep hbA) (by decide) (fun s hs => by cases hs) (fun s hs => by cases hs) (Lib.hid (by kernel_rfl)))
               have HBq5 := Lib.hid (below_more HBa5.out hbA)
               have HM1 := Lib.hid (HM1.out.keep hbA)
               have HM2 := Lib.hid (HM2.out.keep hbA)
               have HM3 := Lib.hid (HM3.out.keep hbA)
               have HM4 := Lib.hid (HM4.out.keep hbA)
               have HV7 := Lib.hid (HV5a.out.keep hbA)
               have HS7 := Lib.hid (HS5a.out.keep hbA)
               clear hbA hb5 hk6 hst HV5 HV5a HV6 HS5 HS5a HS6 HE0
               simp only [envVal] at HVN
               refine HVN.out.mono ?_
               rintro e wa6 ⟨rfl, hb6⟩
               have hbz : Below wa6.heap.size wa6 (wa6.alloc (.cells #[.int .u8 0, .int .i64 0, .string ⟨#[]⟩, .slice none 0 0, .slice none 0 0] 26)) := bel_alloc (Below.refl _ _) _
               have hbA := below_more hb6 hbz
               have HBq6 := Lib.hid (below_more HBq5.out hbA)
               have HM1 := Lib.hid (HM1.out.keep hbA)
               have HM2 := Lib.hid (HM2.out.keep hbA)
               have HM3 := Lib.hid (HM3.out.keep hbA)
               have HM4 := Lib.hid (HM4.out.keep hbA)
               have HSN := Lib.hid (sSigned_no (.mk 4 exV.n exV.t exV.names exV.items) [] ⟨4, yn4, yt4, ya4, yl4, yc4, yb4, ym4, ye4⟩ a4 0 c4 _ rfl (HV7.out.keep hbA) (HS7.out.keep hbA) (by decide) (fun s hs => by cases hs) (fun s hs => by cases hs) (Lib.hid rfl))
               obtain ⟨q0, q1, q2, q3, q4, q5, qf⟩ := b6' HM4.out.1
               clear hbA hb6 hbz HVN HV7 HS7
               simp only [zC, VC.val]
               simp only [envVal] at HSN
               go_wp2_with fail
               generalize wa6.alloc (.cells #[.int .u8 0, .int .i64 0, .string ⟨#[]⟩, .slice none 0 0, .slice none 0 0] 26) = wq6 at HSN HM1 HM2 HM3 HM4 HBq6 q0 q1 q2 q3 q4 q5 qf ⊢
               refine HSN.out.mono ?_
               rintro e wq7 ⟨rfl, hb7⟩
               have HBq7 := Lib.hid (below_more HBq6.out hb7)
               have HM1 := Lib.hid (HM1.out.keep hb7)
               have HM2 := Lib.hid (HM2.out.keep hb7)
               have HM3 := Lib.hid (HM3.out.keep hb7)
               have HM4 := Lib.hid (HM4.out.keep hb7)
               clear hb7 HSN q0 q1 q2 q3 q4 q5 qf
               obtain ⟨q0, q1, q2, q3, q4, q5, qf⟩ := b6' HM1.out.1
               go_wp2_with fail
               refine (HM1.out.2 _ (Below.refl _ _)).mono ?_
               rintro e wq8 ⟨rfl, hb8⟩
               have HBq8 := Lib.hid (below_more HBq7.out hb8)
               have HM2 := Lib.hid (HM2.out.keep hb8)
               have HM3 := Lib.hid (HM3.out.keep hb8)
               have HM4 := Lib.hid (HM4.out.keep hb8)
               clear hb8 q0 q1 q2 q3 q4 q5 qf HM1
               obtain ⟨q0, q1, q2, q3, q4, q5, qf⟩ := b6' HM2.out.1
               go_wp2_with fail
               refine (HM2.out.2 _ (Below.refl _ _)).mono ?_
               rintro e wq9 ⟨rfl, hb9⟩
               have HBq9 := Lib.hid (below_more HBq8.out hb9)
               have HM3 := Lib.hid (HM3.out.keep hb9)
               have HM4 := Lib.hid (HM4.out.keep hb9)
               clear hb9 q0 q1 q2 q3 q4 q5 qf HM2
               obtain ⟨q0, q1, q2, q3, q4, q5, qf⟩ := b6' HM3.out.1
               go_wp2_with fail
               refine (HM3.out.2 _ (Below.refl _ _)).mono ?_
               rintro e wqa ⟨rfl, hba⟩
               have HBqa := Lib.hid (below_more HBq9.out hba)
               have HM4 := Lib.hid (HM4.out.keep hba)
               clear hba q0 q1 q2 q3 q4 q5 qf HM3
               obtain ⟨q0, q1, q2, q3, q4, q5, qf⟩ := b6' HM4.out.1
               go_wp2_with fail
               refine (HM4.out.2 _ (Below.refl _ _)).mono ?_
               rintro e wqb ⟨rfl, hbb⟩
               have HBqb := Lib.hid (below_more HBqa.out hbb)
               clear hbb q0 q1 q2 q3 q4 q5 qf HM4
               go_wp2_with fail
               go_ret
               exact ⟨rfl, HBqb.out⟩
end
end Go.Proofs.YtmggmpigpiaagaaGreatDoor
