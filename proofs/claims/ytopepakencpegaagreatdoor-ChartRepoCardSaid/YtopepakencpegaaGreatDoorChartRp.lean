/-
  A repository more, plainly: where it comes, and whether the map may be.
-/
import Derived.Test.YtopepakencpegaaGreatDoorChartLb
import Derived.Test.YtopepakencpegaaGreatDoorValRef3
import Derived.Test.YtopepakencpegaaGreatDoorChartRd
namespace Go.Proofs.YtopepakencpegaaGreatDoor
open Go.RowKit

/-- A repository put in ahead of the first one that is greater; at the end, if there is none. -/
def insR (y : RepoP) : Bool → List RepoP → List RepoP
  | put, [] => if put = true then [] else [y]
  | put, r :: l => if put = false ∧ Op.bytesLess y.1.toList r.1.toList = true then y :: r :: insR y true l else r :: insR y put l
theorem insR_step {y r : RepoP} {put : Bool} {l : List RepoP} {j : Nat} (h : l[j]? = some r) : insR y put (l.drop j) = if put = false ∧ Op.bytesLess y.1.toList r.1.toList = true then y :: r :: insR y true (l.drop (j + 1)) else r :: insR y put (l.drop (j + 1)) := by
  obtain ⟨h1, h2⟩ := List.getElem?_eq_some_iff.1 h
  rw [List.drop_eq_getElem_cons h1, h2, insR]
theorem insR_true (y : RepoP) : ∀ l : List RepoP, insR y true l = l
  | [] => rfl
  | r :: l => by rw [insR, if_neg (by simp), insR_true y l]
theorem insR_len (y : RepoP) : ∀ l : List RepoP, (insR y false l).length = l.length + 1
  | [] => rfl
  | r :: l => by
    rw [insR]
    split
    · rw [insR_true]; rfl
    · rw [List.length_cons, insR_len y l, List.length_cons]
theorem insR_mem (y : RepoP) {x : RepoP} : ∀ l : List RepoP, x ∈ insR y false l ↔ x = y ∨ x ∈ l
  | [] => by rw [insR, if_neg (by decide)]; simp
  | r :: l => by
    rw [insR]
    split
    · rw [insR_true]; simp
    · rw [List.mem_cons, insR_mem y l, List.mem_cons]
      constructor
      · rintro (h | h | h)
        · exact Or.inr (Or.inl h)
        · exact Or.inl h
        · exact Or.inr (Or.inr h)
      · rintro (h | h | h)
        · exact Or.inr (Or.inl h)
        · exact Or.inl h
        · exact Or.inr (Or.inr h)
theorem ascB_ofR {l : List ByteArray} (h : l.Pairwise (fun a b => Op.bytesLess a.data.toList b.data.toList = true)) : ascB l = true := by
  unfold ascB
  rw [List.all_eq_true]
  intro i hi
  have hi' : i < l.length - 1 := List.mem_range.1 hi
  have h2 := List.pairwise_iff_getElem.1 h i (i + 1) (by omega) (by omega) (by omega)
  unfold lessAt
  rw [toList_data, toList_data, List.getD_eq_getElem?_getD, List.getD_eq_getElem?_getD, List.getElem?_eq_getElem (by omega), List.getElem?_eq_getElem (by omega)]
  exact h2
def RLt (a b : RepoP) : Prop := Op.bytesLess a.1.data.toList b.1.data.toList = true
theorem names_pair {l : List RepoP} : (namesR l).Pairwise (fun a b => Op.bytesLess a.data.toList b.data.toList = true) ↔ l.Pairwise RLt := by
  unfold namesR
  rw [List.pairwise_map]
  exact Iff.rfl
theorem asc_repos {l : List RepoP} : ascB (namesR l) = true ↔ l.Pairwise RLt := ⟨fun h => names_pair.1 (asc_pairsX h), fun h => ascB_ofR (names_pair.2 h)⟩
theorem bytes_eq {a b : ByteArray} (h : a.data.toList = b.data.toList) : a = b := by
  cases a with | mk x => cases b with | mk z => simp only at h; rw [show x = z from by rw [← Array.toArray_toList (xs := x), h, Array.toArray_toList]]
theorem insR_apart (y : RepoP) : ∀ l : List RepoP, (insR y false l).Pairwise RLt → ∀ r ∈ l, r.1 ≠ y.1
  | [], _, r, hr => by cases hr
  | x :: l, h, r, hr => by
    rw [insR] at h
    split at h
    · obtain ⟨h1, -⟩ := List.pairwise_cons.1 h
      rw [insR_true] at h1
      have h2 := h1 r hr
      intro e
      unfold RLt at h2
      rw [e, bl_irrefl] at h2
      cases h2
    · obtain ⟨h1, h3⟩ := List.pairwise_cons.1 h
      rcases List.mem_cons.1 hr with rfl | hr
      · have h2 := h1 y ((insR_mem y l).2 (Or.inl rfl))
        intro e
        unfold RLt at h2
        rw [e, bl_irrefl] at h2
        cases h2
      · exact insR_apart y l h3 r hr
theorem insR_pair (y : RepoP) : ∀ l : List RepoP, l.Pairwise RLt → (∀ r ∈ l, r.1 ≠ y.1) → (insR y false l).Pairwise RLt
  | [], _, _ => by rw [insR, if_neg (by decide)]; exact List.pairwise_singleton _ _
  | x :: l, h, hn => by
    obtain ⟨h1, h2⟩ := List.pairwise_cons.1 h
    rw [insR]
    split
    · next hc =>
      have hyx : Op.bytesLess y.1.data.toList x.1.data.toList = true := by have := hc.2; rwa [toList_data, toList_data] at this
      rw [insR_true]
      refine List.pairwise_cons.2 ⟨fun z hz => ?_, h⟩
      rcases List.mem_cons.1 hz with rfl | hz
      · exact hyx
      · exact bl_trans _ _ _ hyx (h1 z hz)
    · next hc =>
      have hyx : Op.bytesLess y.1.data.toList x.1.data.toList = false := by
        have := fun e => hc ⟨rfl, e⟩
        rw [toList_data, toList_data] at this
        simpa using this
      refine List.pairwise_cons.2 ⟨fun z hz => ?_, insR_pair y l h2 (fun r hr => hn r (List.mem_cons_of_mem _ hr))⟩
      rcases (insR_mem y l).1 hz with rfl | hz
      · unfold RLt
        cases hxy : Op.bytesLess x.1.data.toList z.1.data.toList with
        | true => rfl
        | false => exact absurd (bytes_eq (bl_total _ _ hxy hyx)) (hn x List.mem_cons_self)
      · exact h1 z hz
theorem wrongGo_more {R R' : List ByteArray} (hs : ∀ s ∈ R, s ∈ R') : ∀ (l A : List ByteArray), wrongGo R A l = 0 → wrongGo R' A l = 0
  | [], _, _ => rfl
  | n :: r, A, h => by
    rw [wrongGo] at h ⊢
    by_cases h1 : inL R n = false
    · rw [if_pos h1] at h; exact absurd h (by decide)
    · rw [if_neg h1] at h
      have h2 : ¬ inL R' n = false := by
        have : n ∈ R := inL_iff.1 (by simpa using h1)
        rw [inL_iff.2 (hs n this)]
        decide
      rw [if_neg h2]
      by_cases h3 : inL A n = true
      · rw [if_pos h3] at h; exact absurd h (by decide)
      · rw [if_neg h3] at h ⊢
        exact wrongGo_more hs r _ h
theorem wrongV_more {x : MapgP} {R R' : List ByteArray} (hs : ∀ s ∈ R, s ∈ R') (h : wrongV x R = 0) : wrongV x R' = 0 := by
  obtain ⟨-, -, -, p4, -, -, p7, p8, p9, p10⟩ := wrongV_parts h
  have h2 : wrongReposV x.repos R' = 0 := by
    unfold wrongReposV at p10 ⊢
    have hne : ¬ x.repos = [] := fun e => by rw [e] at p4; simp at p4
    rw [if_neg hne] at p10 ⊢
    exact wrongGo_more hs _ _ p10
  unfold wrongV
  rw [if_neg (by rw [p9]; decide), if_neg (by rw [h2]; decide), if_neg (by omega)]
/-- The names among which a name is. -/
def hereB (s : ByteArray) (l : List RepoP) : Bool := l.any fun r => decide (r.1 = s)
theorem hereB_iff {s : ByteArray} {l : List RepoP} : hereB s l = true ↔ ∃ r ∈ l, r.1 = s := by
  unfold hereB
  rw [List.any_eq_true]
  constructor
  · rintro ⟨r, h1, h2⟩; exact ⟨r, h1, of_decide_eq_true h2⟩
  · rintro ⟨r, h1, h2⟩; exact ⟨r, h1, decide_eq_true h2⟩
/-- May a map be with a repository more? -/
def moreB (y : RepoP) (l : List RepoP) : Bool := roleB y.1 && !hereB y.1 l && decide (l.length < 8) && decide (y.2.length ≤ 8) && y.2.all writ
theorem more_may {M : MapP} (h : mayM M = true) (y : RepoP) : mayM ⟨insR y false M.repos, M.maps⟩ = moreB y M.repos := by
  obtain ⟨h1, h2, h3, h4, h5, h6⟩ := mayM_parts h
  have hp := asc_repos.1 h4
  rw [Bool.eq_iff_iff]
  constructor
  · intro hm
    obtain ⟨-, g2, -, g4, g5, -⟩ := mayM_parts hm
    simp only at g2 g4 g5
    rw [insR_len] at g2
    obtain ⟨a, b, c⟩ := g5 y ((insR_mem y _).2 (Or.inl rfl))
    have hh : hereB y.1 M.repos = false := by
      cases hb : hereB y.1 M.repos with
      | false => rfl
      | true =>
        obtain ⟨r, hr, e⟩ := hereB_iff.1 hb
        exact absurd e (insR_apart y _ (asc_repos.1 g4) r hr)
    unfold moreB
    rw [a, hh, decide_eq_true (by omega), decide_eq_true b, List.all_eq_true.2 c]
    rfl
  · intro hm
    unfold moreB at hm
    rw [Bool.and_eq_true, Bool.and_eq_true, Bool.and_eq_true, Bool.and_eq_true, decide_eq_true_eq, decide_eq_true_eq] at hm
    obtain ⟨⟨⟨⟨a, b⟩, c⟩, d⟩, f⟩ := hm
    have hn : ∀ r ∈ M.repos, r.1 ≠ y.1 := fun r hr e => by
      rw [hereB_iff.2 ⟨r, hr, e⟩] at b
      cases b
    unfold mayM
    have k1 : ascB (namesR (insR y false M.repos)) = true := asc_repos.2 (insR_pair y _ hp hn)
    have k2 : (insR y false M.repos).all (fun r => roleB r.1 && urlsB r.2) = true := List.all_eq_true.2 fun r hr => by
      rcases (insR_mem y _).1 hr with rfl | hr
      · unfold urlsB
        rw [a, decide_eq_true d, f]
        rfl
      · obtain ⟨p, q, s⟩ := h5 r hr
        unfold urlsB
        rw [p, decide_eq_true q, List.all_eq_true.2 s]
        rfl
    have k3 : M.maps.all (fun x => decide (wrongV x (namesR (insR y false M.repos)) = 0)) = true := List.all_eq_true.2 fun x hx => decide_eq_true (wrongV_more (fun s hs => by
      obtain ⟨r, hr, rfl⟩ := names_mem hs
      exact List.mem_map.2 ⟨r, (insR_mem y _).2 (Or.inr hr), rfl⟩) (h6 x hx))
    simp only
    rw [k1, k2, k3, decide_eq_true (show 1 ≤ (insR y false M.repos).length by rw [insR_len]; omega), decide_eq_true (show (insR y false M.repos).length ≤ 8 by rw [insR_len]; omega), decide_eq_true h3]
    rfl
theorem textsGo_geR : ∀ (l : List ByteArray) (n : Nat), n ≤ textsGo n l
  | [], n => Nat.le_refl _
  | s :: l, n => by
    rw [textsGo]
    split
    · have := textsGo_geR l (n + 5 + min 20000 s.size); omega
    · exact Nat.le_refl _
theorem textsGo_size : ∀ (l : List ByteArray) (n : Nat), textsGo n l < 20000 → ∀ s ∈ l, s.size ≤ 20000
  | [], n, _, s, hs => by cases hs
  | x :: l, n, h, s, hs => by
    rw [textsGo] at h
    by_cases hn : n < 20000
    · rw [if_pos hn] at h
      rcases List.mem_cons.1 hs with rfl | hs
      · have := textsGo_geR l (n + 5 + min 20000 s.size)
        omega
      · exact textsGo_size l _ h s hs
    · rw [if_neg hn] at h; omega
theorem long_us {M : MapP} {y : RepoP} (h : longLg 0 [M, ⟨[y], []⟩] < 20000) : ∀ s ∈ y.2, s.size ≤ 20000 := by
  obtain ⟨x, hx⟩ : ∃ x, mapsLg (reposLg 0 M.repos) M.maps = x := ⟨_, rfl⟩
  rw [longLg, hx, longLg, longLg] at h
  simp only [mapsLg, reposLg] at h
  split at h
  · exact textsGo_size y.2 0 (show textsN y.2 < 20000 by omega)
  · omega
section
open Go.ChangeShapes Go.WideShapes Go.Deep
variable {H : Type} {enc : TypeId × Value → H} {w : World} {base : Nat} {spare : Nat → Bool} {held : Bool}
set_option maxRecDepth 100000 in
theorem strsAt_arg {q : Reach} {b0 : Nat} {v : Value} {d : DataW H} {p : List MemPlace} (hv : Value.okWide Tryz.prog w q b0 36 v) (h : DataW.Trod enc Tryz.prog w base spare held 36 v d p) : ∃ l, StrsAt w v l := by
  obtain ⟨a1, len, cap, rfl⟩ := okWide_slice Tryz.underlying36 hv
  obtain ⟨fuel, hf⟩ := h
  exact strsAt_trod hf
end
end Go.Proofs.YtopepakencpegaaGreatDoor
