/-
 legateref18: the document's patterns, walked: Is, on.
-/
import Derived.Test.YtjnakpbobeeclaaGreatDoorChartE
import Derived.Test.YtjnakpbobeeclaaGreatDoorUtfA
import Derived.Test.YtjnakpbobeeclaaGreatDoorBlk
import Derived.Deep.LoopGhost
namespace Go.Proofs.YtjnakpbobeeclaaGreatDoor
set_option maxRecDepth 100000
open Go.RowKit
def BoolRow (cs : Array Value) (n : Nat) (f : Nat → Bool) : Prop := cs.size = n ∧ ∀ i, i < n → cs[i]? = some (.bool (f i))
theorem BoolRow.set {cs : Array Value} {n : Nat} {f : Nat → Bool} (h : BoolRow cs n f) (k : Nat) : BoolRow (cs.setIfInBounds k (.bool true)) n (fun i => f i || decide (i = k)) := by
 refine ⟨by rw [Array.size_setIfInBounds]; exact h.1, fun i hi => ?_⟩
 rw [Array.getElem?_setIfInBounds]
 by_cases e : k = i
 · subst e
   rw [if_pos rfl, if_pos (by rw [h.1]; exact hi)]
   simp
 · rw [if_neg e, h.2 i hi]
   have : decide (i = k) = false := decide_eq_false (fun h => e h.symm)
   show _ = some (Value.bool (f i || decide (i = k)))
   rw [this, Bool.or_false]
theorem BoolRow.congr {cs : Array Value} {n : Nat} {f g : Nat → Bool} (h : BoolRow cs n f) (e : ∀ i, i < n → f i = g i) : BoolRow cs n g := ⟨h.1, fun i hi => by rw [h.2 i hi, e i hi]⟩
theorem BoolRow.made (n : Nat) : BoolRow (madeCells #[Value.bool false] n) n (fun _ => false) := ⟨size_madeCells _ _, fun i hi => by simp [madeCells, hi, Nat.mod_one]⟩
def onTo (p : List Int) (a : Nat → Bool) (k i : Nat) : Bool := if i ≤ k then gOn p a i else a i
theorem onTo_zero (p : List Int) (a : Nat → Bool) (i : Nat) : onTo p a 0 i = a i := by
 unfold onTo
 split
 · obtain rfl : i = 0 := by omega
   rfl
 · rfl
theorem onTo_at (p : List Int) (a : Nat → Bool) (k : Nat) : onTo p a k k = gOn p a k := by rw [onTo, if_pos (Nat.le_refl _)]
theorem onTo_yes {p : List Int} {a : Nat → Bool} {k : Nat} (h : gOn p a k = true) (hp : p[k]? = some 42) (i : Nat) : (onTo p a k i || decide (i = k + 1)) = onTo p a (k + 1) i := by
 unfold onTo
 by_cases h1 : i ≤ k
 · rw [if_pos h1, if_pos (by omega), decide_eq_false (by omega), Bool.or_false]
 · rw [if_neg h1]
   by_cases h2 : i = k + 1
   · subst h2
     rw [if_pos (Nat.le_refl _), decide_eq_true rfl, Bool.or_true, gOn, h, hp]
     simp
   · rw [if_neg (by omega), decide_eq_false h2, Bool.or_false]
theorem onTo_no {p : List Int} {a : Nat → Bool} {k : Nat} (h : gOn p a k = false ∨ p[k]? ≠ some 42) (i : Nat) : onTo p a k i = onTo p a (k + 1) i := by
 unfold onTo
 by_cases h1 : i ≤ k
 · rw [if_pos h1, if_pos (by omega)]
 · rw [if_neg h1]
   by_cases h2 : i = k + 1
   · subst h2
     rw [if_pos (Nat.le_refl _), gOn]
     rcases h with h | h
     · rw [h]; simp
     · rw [beq_eq_false_iff_ne.2 h]; simp
   · rw [if_neg (by omega)]
theorem onTo_all (p : List Int) (a : Nat → Bool) (n i : Nat) (h : i < n + 1) : onTo p a n i = gOn p a i := by rw [onTo, if_pos (by omega)]
def nextTo (p : List Int) (a : Nat → Bool) (r : Int) (k i : Nat) : Bool :=
 (decide (i < k) && (a i && (p[i]? == some 42) && (r != 47))) || (match i with | 0 => false | j + 1 => decide (j < k) && (a j && (match p[j]? with | some x => x != 42 && gOne x r | none => false)))
theorem nextTo_zero (p : List Int) (a : Nat → Bool) (r : Int) (i : Nat) : nextTo p a r 0 i = false := by
 unfold nextTo
 cases i <;> simp
theorem nextTo_all (p : List Int) (a : Nat → Bool) (r : Int) (i : Nat) : nextTo p a r p.length i = gNext p a r i := by
 have h1 : ∀ i, (decide (i < p.length) && (a i && (p[i]? == some 42) && (r != 47))) = (a i && (p[i]? == some 42) && (r != 47)) := fun i => by
   by_cases h : i < p.length
   · rw [decide_eq_true h, Bool.true_and]
   · rw [List.getElem?_eq_none (by omega)]
     simp
 unfold nextTo gNext
 rw [h1]
 cases i with
 | zero => rfl
 | succ j =>
   by_cases h : j < p.length
   · simp only [decide_eq_true h, Bool.true_and]
     try rfl
   · simp only [List.getElem?_eq_none (show p.length ≤ j by omega), Bool.and_false]
     try rfl
theorem nextTo_step {p : List Int} {a : Nat → Bool} {r : Int} {k : Nat} {x : Int} (hx : p[k]? = some x) (i : Nat) : nextTo p a r (k + 1) i = ((nextTo p a r k i || (decide (i = k) && (a k && (x == 42) && (r != 47)))) || (decide (i = k + 1) && (a k && (x != 42 && gOne x r)))) := by
 have h1 : (decide (i < k + 1) && (a i && (p[i]? == some 42) && (r != 47))) = ((decide (i < k) && (a i && (p[i]? == some 42) && (r != 47))) || (decide (i = k) && (a k && (x == 42) && (r != 47)))) := by
   by_cases h : i = k
   · subst h
     rw [hx]
     simp
   · have e1 : decide (i = k) = false := decide_eq_false h
     rw [e1]
     by_cases h2 : i < k
     · rw [decide_eq_true h2, decide_eq_true (by omega)]
       simp
     · rw [decide_eq_false h2, decide_eq_false (by omega)]
       simp
 unfold nextTo
 rw [h1]
 cases i with
 | zero => simp
 | succ j =>
   show (((decide (j + 1 < k) && (a (j + 1) && (p[j + 1]? == some 42) && (r != 47))) || (decide (j + 1 = k) && (a k && (x == 42) && (r != 47)))) || (decide (j < k + 1) && (a j && (match p[j]? with | some x => x != 42 && gOne x r | none => false)))) = ((((decide (j + 1 < k) && (a (j + 1) && (p[j + 1]? == some 42) && (r != 47))) || (decide (j < k) && (a j && (match p[j]? with | some x => x != 42 && gOne x r | none => false)))) || (decide (j + 1 = k) && (a k && (x == 42) && (r != 47)))) || (decide (j + 1 = k + 1) && (a k && (x != 42 && gOne x r))))
   by_cases h : j = k
   · subst h
     simp [hx]
   · have e3 : decide (j + 1 = k + 1) = false := decide_eq_false (by omega)
     rw [e3]
     have e4 : decide (j < k + 1) = decide (j < k) := by
       by_cases h2 : j < k
       · rw [decide_eq_true h2, decide_eq_true (by omega)]
       · rw [decide_eq_false h2, decide_eq_false (by omega)]
     rw [e4]
     simp only [Bool.false_and, Bool.or_false]
     cases (decide (j + 1 < k) && (a (j + 1) && (p[j + 1]? == some 42) && (r != 47))) <;> cases (decide (j + 1 = k) && (a k && (x == 42) && (r != 47))) <;> simp
theorem gOne_ref (x r : Int) : gOne x r = ((x == r) || ((x == 63) && (r != 47))) := by
 unfold gOne
 by_cases h : x = 63
 · subst h
   rw [if_pos rfl]
   by_cases h2 : r = 47
   · subst h2; rfl
   · have : (r != 47) = true := bne_iff_ne.2 h2
     rw [this]; simp
 · rw [if_neg h, beq_eq_false_iff_ne.2 h]
   simp
theorem grown_cell {w w' : World} {row : Option Nat} (hg : w.grownBy w' row) {b o : Nat} {v : Value} (h : w.cell? ⟨b, o, none⟩ = some v) (hne : some b ≠ row) : w'.cell? ⟨b, o, none⟩ = some v := by
 have hlt : b < w.heap.size := by
   rcases Nat.lt_or_ge b w.heap.size with h1 | h1
   · exact h1
   · unfold World.cell? at h
     rw [Array.getElem?_eq_none h1] at h
     cases h
 unfold World.cell? at h ⊢
 rw [hg.block b hlt hne]
 exact h
set_option maxHeartbeats 2000000 in
theorem is18_any (s : ByteArray) (w : World) : Calls Tryz.prog 102 #[.string s] w fun e w' => e = .returned (.bool (pathB s)) ∧ Below w.heap.size w w' := by
 obtain ⟨r, hr⟩ : ∃ r, pathB s = r := ⟨_, rfl⟩
 rw [hr]
 unfold pathB at hr
 by_cases h0 : s.size = 0
 · obtain rfl := emptyA h0
   obtain rfl : false = r := by rw [← hr]; rfl
   clear hr h0
   go_enter Tryz.func102, Tryz.ntmps102
   go_wp2_with fail
   go_ret
   exact ⟨rfl, Below.refl _ _⟩
 · have hp : 0 < s.size := by omega
   have hne := toList_ne hp
   have hd := data_first hp
   have i1 : (0 : Int) < (s.size : Int) := by omega
   have i2 : decide ((s.size : Int) < 1) = false := decide_eq_false (by omega)
   have i3 : decide (s.size < 1) = false := decide_eq_false (by omega)
   by_cases h64 : s.size ≤ 256
   · have g1 : decide ((256 : Int) < (s.size : Int)) = false := decide_eq_false (by omega)
     have g2 : decide (256 < s.size) = false := decide_eq_false (by omega)
     by_cases hdot : s[0].toNat = 47
     · have e1 : ((s[0].toNat : Int) == 47) = true := by rw [hdot]; rfl
       obtain rfl : false = r := by
         rw [← hr, hd]
         have : s[0] = 47 := UInt8.toNat_inj.1 hdot
         rw [this]
         simp
       clear hr hd hdot
       go_enter Tryz.func102, Tryz.ntmps102
       go_wp2_with fail
       go_ret
       exact ⟨rfl, Below.refl _ _⟩
     · have e1 : ((s[0].toNat : Int) == 47) = false := beq_eq_false_iff_ne.2 (by omega)
       have hr2 : utfOK s = r := by
         rw [← hr, hd]
         have : s[0] ≠ 47 := fun e => hdot (by rw [e]; rfl)
         simp [show 1 ≤ s.size by omega, h64, this]
       have HU := Lib.hid (fun W => refLen_any s W (by omega))
       unfold RefLenPost at HU
       rw [hr2] at HU
       clear hr hr2 hd hdot
       go_enter Tryz.func102, Tryz.ntmps102
       go_wp2_with fail
       refine (HU.out _).mono ?_
       rintro e w2 ⟨n, rfl, hb⟩
       have HB := Lib.hid hb
       clear hb
       go_wp2_with fail
       go_ret
       exact ⟨rfl, HB.out⟩
   · have g1 : decide ((256 : Int) < (s.size : Int)) = true := decide_eq_true (by omega)
     have g2 : decide (256 < s.size) = true := decide_eq_true (by omega)
     obtain rfl : false = r := by rw [← hr, decide_eq_false h64]; simp
     clear hr hd
     go_enter Tryz.func102, Tryz.ntmps102
     go_wp2_with fail
     go_ret
     exact ⟨rfl, Below.refl _ _⟩
set_option maxHeartbeats 4000000 in
theorem refOn_any (p : List Int) (f : Nat → Bool) (P Q b bp cp : Nat) (cs : Array Value) (w : World) (hP : p.length = P) (hPn : P ≤ 256) (hQ : Q = P + 1) (hb : BlkAt w b 4 cs) (hr : BoolRow cs Q f) (hp : ∀ i x, p[i]? = some x → w.cell? ⟨bp, i, none⟩ = some (.int .i32 x)) (hne : bp ≠ b) :
   Calls Tryz.prog 103 #[.slice (some ⟨b, 0, none⟩) Q Q, .slice (some ⟨bp, 0, none⟩) P cp] w fun e w' => e = .returned (.slice (some ⟨b, 0, none⟩) Q Q) ∧ ∃ cs', BlkAt w' b 4 cs' ∧ BoolRow cs' Q (gOn p f) ∧ w.grownBy w' (some b) := by
 have HP := Lib.hid hP
 have HC := Lib.hid hp
 have HB0 := Lib.hid hb
 have HR0 : Hid (BoolRow cs Q (onTo p f 0)) := hr.congr fun i _ => (onTo_zero p f i).symm
 have HNE := Lib.hid hne
 have HQ := Lib.hid hQ
 clear hP hp hb hr hne hQ
 go_enter Tryz.func103, Tryz.ntmps103
 go_wp2_with fail
 go_loopg [5] P (fun gk u wr => ∃ (k : Nat) (cr : Array Value), P - k = gk ∧ u = .int .i64 k ∧ k ≤ P ∧ Hid (BlkAt wr b 4 cr) ∧ Hid (BoolRow cr Q (onTo p f k)) ∧ Hid (w.grownBy wr (some b)))
 case atStart => exact ⟨0, cs, rfl, rfl, Nat.zero_le _, HB0, HR0, World.grownBy.refl _ _⟩
 case round =>
   obtain ⟨k, cr, rfl, rfl, hk, HB, HR, HG⟩ := hrel
   by_cases hlt : k < P
   · obtain ⟨x, hx⟩ : ∃ x, p[k]? = some x := ⟨_, List.getElem?_eq_getElem (by rw [HP.out]; exact hlt)⟩
     have i0 : (0 : Int) ≤ (k : Int) := by omega
     have i1 : (k : Int) < (P : Int) := by omega
     have i3 : (k : Int) < (Q : Int) := by have := HQ.out; omega
     have c0 : wr.cell? ⟨b, k, none⟩ = some (.bool (gOn p f k)) := by rw [HB.out.cell k, HR.out.2 k (by have := HQ.out; omega), onTo_at]
     have c1 : wr.cell? ⟨bp, k, none⟩ = some (.int .i32 x) := grown_cell HG.out (HC.out k x hx) (fun e => HNE.out (Option.some.inj e))
     cases hg : gOn p f k with
     | false =>
       have HR2 : Hid (BoolRow cr Q (onTo p f (k + 1))) := HR.out.congr fun i _ => onTo_no (Or.inl hg) i
       rw [hg] at c0
       clear hg hx
       go_wp2_with fail
       go_roundg (P - (k + 1))
       case rel => exact ⟨k + 1, cr, rfl, by go_num, by omega, HB, HR2, HG⟩
       case measure => omega
     | true =>
       rw [hg] at c0
       by_cases h42 : x = 42
       · have e1 : (x == 42) = true := beq_iff_eq.2 h42
         have hx2 : p[k]? = some 42 := by rw [hx, h42]
         have HR2 : Hid (BoolRow (cr.setIfInBounds (k + 1) (.bool true)) Q (onTo p f (k + 1))) := (HR.out.set (k + 1)).congr fun i _ => onTo_yes hg hx2 i
         have c2 : wr.cell? ⟨b, k + 1, none⟩ = some (.bool (onTo p f k (k + 1))) := by rw [HB.out.cell (k + 1), HR.out.2 (k + 1) (by have := HQ.out; omega)]
         have f2 := HB.out.free (k + 1)
         have w1 : IntKind.i64.wrap ((k : Int) + 1) = ((k + 1 : Nat) : Int) := by rw [IntWalk.i64_in _ (by omega)]; omega
         have i4 : (0 : Int) ≤ ((k + 1 : Nat) : Int) := by omega
         have i5 : ((k + 1 : Nat) : Int) < (Q : Int) := by have := HQ.out; omega
         have i6 : (k : Int) + 1 < (Q : Int) := by have := HQ.out; omega
         have i7 : (0 : Int) ≤ (k : Int) + 1 := by omega
         clear hg hx hx2 h42
         go_wp2_with fail
         go_roundg (P - (k + 1))
         case rel => exact ⟨k + 1, _, rfl, by go_num, by omega, HB.out.set (k + 1) _, HR2, grown_set HG.out (k + 1) _⟩
         case measure => omega
       · have e1 : (x == 42) = false := beq_eq_false_iff_ne.2 h42
         have HR2 : Hid (BoolRow cr Q (onTo p f (k + 1))) := HR.out.congr fun i _ => onTo_no (Or.inr (by rw [hx]; exact fun e => h42 (Option.some.inj e))) i
         clear hg hx h42
         go_wp2_with fail
         go_roundg (P - (k + 1))
         case rel => exact ⟨k + 1, cr, rfl, by go_num, by omega, HB, HR2, HG⟩
         case measure => omega
   · obtain rfl : k = P := by omega
     have i1 : ¬ (k : Int) < (k : Int) := by omega
     go_wp2_with fail
     go_ret
     exact ⟨rfl, cr, HB.out, HR.out.congr fun i hi => onTo_all p f k i (by have := HQ.out; omega), HG.out⟩
end Go.Proofs.YtjnakpbobeeclaaGreatDoor
