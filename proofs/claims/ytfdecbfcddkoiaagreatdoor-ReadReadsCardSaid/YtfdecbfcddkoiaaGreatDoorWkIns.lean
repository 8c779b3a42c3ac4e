/-
  A member put into a row in the order of the names: plainly; rows put together by append, whether there is something or not.
-/
import Derived.Test.YtfdecbfcddkoiaaGreatDoorReadSorted
import Derived.Test.YtfdecbfcddkoiaaGreatDoorCanonUniq
namespace Go.Proofs.YtfdecbfcddkoiaaGreatDoor
open Go.RowKit

/-! Plainly. -/
/-- Where a name stands, or would stand. -/
def insK (n : ByteArray) (l : List Mem) : Nat := (l.takeWhile fun y => nmLt y.1 n).length
theorem insK_le (n : ByteArray) (l : List Mem) : insK n l ≤ l.length := by
  unfold insK
  exact (List.takeWhile_sublist _).length_le
theorem insM_at (x : Mem) : ∀ l : List Mem, insM x l = l.take (insK x.1 l) ++ x :: l.drop (insK x.1 l)
  | [] => rfl
  | y :: r => by
    unfold insK
    rw [insM]
    by_cases h : nmLt y.1 x.1 = true
    · rw [if_pos h, List.takeWhile_cons, if_pos h, insM_at x r]
      rfl
    · rw [if_neg h, List.takeWhile_cons, if_neg h]
      rfl
/-- Up to it all names are less. -/
theorem insK_lt (n : ByteArray) : ∀ (l : List Mem) (j : Nat) (y : Mem), l[j]? = some y → j < insK n l → nmLt y.1 n = true
  | [], j, y, h, _ => by simp at h
  | z :: r, j, y, h, hj => by
    unfold insK at hj
    rw [List.takeWhile_cons] at hj
    by_cases hz : nmLt z.1 n = true
    · rw [if_pos hz, List.length_cons] at hj
      match j, h with
      | 0, h => simp at h; rw [← h]; exact hz
      | j + 1, h => exact insK_lt n r j y (by simpa using h) (by unfold insK; omega)
    · rw [if_neg hz] at hj
      simp at hj
theorem insK_ge (n : ByteArray) : ∀ (l : List Mem) (y : Mem), l[insK n l]? = some y → nmLt y.1 n = false
  | [], y, h => by simp [insK] at h
  | z :: r, y, h => by
    unfold insK at h
    rw [List.takeWhile_cons] at h
    by_cases hz : nmLt z.1 n = true
    · rw [if_pos hz, List.length_cons] at h
      exact insK_ge n r y (by simpa [insK] using h)
    · rw [if_neg hz] at h
      simp at h
      rw [← h]
      simpa using hz
theorem sortM_snoc (l : List Mem) (x : Mem) : sortM (l ++ [x]) = insM x (sortM l) := by unfold sortM; rw [List.foldl_append]; rfl
theorem hasN_perm {a b : List Mem} (h : a.Perm b) (n : ByteArray) : hasN a n = hasN b n := by
  unfold hasN
  rw [Bool.eq_iff_iff, List.any_eq_true, List.any_eq_true]
  exact ⟨fun ⟨x, hx, e⟩ => ⟨x, h.mem_iff.1 hx, e⟩, fun ⟨x, hx, e⟩ => ⟨x, h.mem_iff.2 hx, e⟩⟩
/-- A name that stands in the sorted row stands where it would be put. -/
theorem hasN_at {l : List Mem} (hs : l.Pairwise MemLe) (n : ByteArray) : hasN l n = true ↔ ∃ y, l[insK n l]? = some y ∧ y.1 = n := by
  constructor
  · intro h
    unfold hasN at h
    rw [List.any_eq_true] at h
    obtain ⟨y, hy, e⟩ := h
    have e' : y.1.data.toList = n.data.toList := by simpa using e
    obtain ⟨i, hi⟩ := List.getElem?_of_mem hy
    have hil : i < l.length := (List.getElem?_eq_some_iff.1 hi).1
    have hik : insK n l ≤ i := by
      apply Classical.byContradiction
      intro hlt
      have := insK_lt n l i y hi (by omega)
      rw [nmLt_eq, e', bl_irrefl] at this
      cases this
    obtain ⟨z, hz⟩ : ∃ z, l[insK n l]? = some z := ⟨_, List.getElem?_eq_getElem (by omega)⟩
    have hz1 := insK_ge n l z hz
    refine ⟨z, hz, bytes_ext ?_⟩
    by_cases hki : insK n l = i
    · rw [hki, hi] at hz
      cases hz
      exact e'
    · have hzy : MemLe z y := by
        rw [List.pairwise_iff_getElem] at hs
        have hzk : l[insK n l] = z := (List.getElem?_eq_some_iff.1 hz).2
        have hyi : l[i] = y := (List.getElem?_eq_some_iff.1 hi).2
        have := hs (insK n l) i (by omega) hil (by omega)
        rw [hzk, hyi] at this
        exact this
      unfold MemLe at hzy
      rw [nmLt_eq, e'] at hzy
      rw [nmLt_eq] at hz1
      exact bl_total _ _ hz1 hzy
  · rintro ⟨y, hy, e⟩
    unfold hasN
    rw [List.any_eq_true]
    exact ⟨y, List.mem_of_getElem? hy, by rw [e]; simp⟩
/-! Rows put together. -/
section
variable {P : Program} (w : World)
theorem run_append_any (base : Nat) (t ty e : TypeId) (i : TypeInfo) (z : Value) (size bytes : Nat) (ht : P.underlying t = some (.slice e)) (hi : P.info? e = some i) (hz : i.zero = some z)
    (hsize : i.size = size) (hby : i.bytes = bytes) (hzs : z.cells.size = size) (hsz : 0 < size)
    (v : Value) (n : Nat) (xs : List Value) (hown : w.ownsRow base e size v n xs)
    (x : Option Addr) (m c : Nat) (news : List Value) (hl : news.length = m * size) (hnews : ∀ j u, news[j]? = some u → ∃ ad, x = some ad ∧ w.cell? (ad.add j) = some u) (h1 : ∀ u ∈ news, u.oneCell' = true)
    (h63 : n + m ≤ maxLen) (hbytes : (n + m) * bytes ≤ 140737488355328) (hbase : base ≤ w.heap.size) :
    ∃ v' w', (Builtin.append_ #[t, t] ty #[v, .slice x m c]).run P w = .ok v' w' ∧ w'.ownsRow base e size v' (n + m) (xs ++ news) ∧ w.grownBy w' v.ownBlock ∧ (v'.ownBlock = v.ownBlock ∨ v'.ownBlock = some w.heap.size) := by
  cases x with
  | some ad =>
    obtain ⟨v', w', h2, h3, h4, -, h5⟩ := run_append_own_at (P := P) w base t ty e i z size bytes ht hi hz hsize hby hzs hsz v n xs hown ad m c news hl (fun j u hu => by obtain ⟨a, ha, hc⟩ := hnews j u hu; cases ha; exact hc) h1 h63 hbytes hbase
    exact ⟨v', w', h2, h3, h4, h5⟩
  | none =>
    have hn : news = [] := by
      cases news with
      | nil => rfl
      | cons u r => obtain ⟨a, ha, -⟩ := hnews 0 u rfl; cases ha
    subst hn
    have hm : m = 0 := by
      rcases Nat.eq_zero_or_pos m with h | h
      · exact h
      · have := Nat.mul_pos h hsz
        simp at hl
        omega
    subst hm
    subst hsize
    refine ⟨v, w, ?_, by rw [List.append_nil]; exact hown, ⟨rfl, rfl, rfl, Nat.le_refl _, fun _ _ _ => rfl⟩, .inl rfl⟩
    rcases hown.2 with ⟨rfl, rfl⟩ | ⟨g, cap, cur, rfl, hbg, hg, hnc, hcm, hcs, htake⟩
    · simp [Builtin.append_, run_underlying ht, sizeOf, typeInfo, hi, Builtin.lenOf, Builtin.firstCells]
    · simp [Builtin.append_, run_underlying ht, sizeOf, typeInfo, hi, Builtin.lenOf, Builtin.firstCells, hnc, storeCells]
theorem step_append_any {ops : Array Oper} {o : Oper} {a : Act} {K : Act → World → Prop} {Q : Exit → Act → World → Prop} {E : Prop} (hgd : o.guard = none) (s y : Operand) (t : TypeId)
    (ho : o.op = .call { callee := .builtin .append, args := #[s, y], argTypes := #[t, t] })
    (base : Nat) (e : TypeId) (i : TypeInfo) (z : Value) (size bytes : Nat) (ht : P.underlying t = some (.slice e)) (hi : P.info? e = some i) (hz : i.zero = some z)
    (hsize : i.size = size) (hby : i.bytes = bytes) (hzs : z.cells.size = size) (hsz : 0 < size)
    (v : Value) (n : Nat) (xs : List Value) (hs : a.eval s = v) (hown : w.ownsRow base e size v n xs)
    (x : Option Addr) (m c : Nat) (news : List Value) (hx : a.eval y = .slice x m c) (hl : news.length = m * size) (hnews : ∀ j u, news[j]? = some u → ∃ ad, x = some ad ∧ w.cell? (ad.add j) = some u) (h1 : ∀ u ∈ news, u.oneCell' = true)
    (h63 : n + m ≤ maxLen) (hbytes : (n + m) * bytes ≤ 140737488355328) (hbase : base ≤ w.heap.size)
    (h : ∀ v' w', w'.ownsRow base e size v' (n + m) (xs ++ news) → w.grownBy w' v.ownBlock → (v'.ownBlock = v.ownBlock ∨ v'.ownBlock = some w.heap.size) → K (a.put o.dst v') w') :
    if Region.wanted o (yielded ops a.tmps) = true then Oper.wp P o a w K Q else E := by
  have hw : Region.wanted o (yielded ops a.tmps) = true := by simp [Region.wanted, hgd]
  rw [if_pos hw]
  obtain ⟨v', w', hr, h2, h3, h4⟩ := run_append_any (P := P) w base t o.type e i z size bytes ht hi hz hsize hby hzs hsz v n xs hown x m c news hl hnews h1 h63 hbytes hbase
  unfold Oper.wp execOp
  simp only [ho, resolve, invoke, builtin, Sem.run_bind, Sem.run_pure, Result.andThen_ok, List.map_toArray, List.map_cons, List.map_nil, hs, hx, hr]
  exact h v' w' h2 h3 h4
end
/-- A row of values with one more in it, in a row of its own. -/
theorem ItemsOwn.ins {wr w1 w5 : World} {B k : Nat} {vI v' : Value} {xs : List XI} {x : VC} {V : JV} (h : ItemsOwn wr B vI xs) (hx : NewV wr.heap.size w1 V x.val) (hB : B ≤ wr.heap.size) (hsz : wr.heap.size ≤ w1.heap.size)
    (hv : ∃ g, v'.ownBlock = some g ∧ w1.heap.size ≤ g) (hown : w5.ownsRow B 26 5 v' (xs.length + 1) (xiCells (xs.take k ++ (x, V) :: xs.drop k)))
    (hk : ∀ b, b < w1.heap.size → B ≤ b → w5.heap[b]? = w1.heap[b]?) (hk0 : ∀ b, b < wr.heap.size → B ≤ b → w1.heap[b]? = wr.heap[b]?) : ItemsOwn w5 B v' (xs.take k ++ (x, V) :: xs.drop k) := by
  obtain ⟨g, hg, hg1⟩ := hv
  have hlen : (xs.take k ++ (x, V) :: xs.drop k).length = xs.length + 1 := by rw [List.length_append, List.length_cons, List.length_take, List.length_drop]; omega
  refine ⟨by rw [hlen]; exact hown, fun y hy => ?_⟩
  have hmem : y ∈ xs ∨ y = (x, V) := by
    rw [List.mem_append, List.mem_cons] at hy
    rcases hy with hy | hy | hy
    · exact .inl (List.mem_of_mem_take hy)
    · exact .inr hy
    · exact .inl (List.mem_of_mem_drop hy)
  rcases hmem with hy | rfl
  · refine (h.2 y hy).carry fun b hb1 hb2 => ?_
    obtain ⟨a, -⟩ := offB_no.1 hb2
    exact ⟨offB_no.2 ⟨a, by rw [hg]; intro e; cases e; omega⟩, (hk b (by omega) a).trans (hk0 b hb1 a)⟩
  · refine ValAt.carry hx fun b hb1 hb2 => ?_
    have a := offB_none.1 hb2
    exact ⟨offB_no.2 ⟨by omega, by rw [hg]; intro e; cases e; omega⟩, hk b hb1 (by omega)⟩
end Go.Proofs.YtfdecbfcddkoiaaGreatDoor
