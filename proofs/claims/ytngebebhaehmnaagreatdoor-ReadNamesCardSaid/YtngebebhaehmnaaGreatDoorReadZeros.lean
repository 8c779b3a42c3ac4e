/-
  legatelaw09.zeros; lists of zeros as texts (plain).
-/
import Derived.Test.YtngebebhaehmnaaGreatDoorOwnB
import Derived.Test.YtngebebhaehmnaaGreatDoorReadQuo
import Derived.Test.YtngebebhaehmnaaGreatDoorCanonShortP
namespace Go.Proofs.YtngebebhaehmnaaGreatDoor
open Go.RowKit

/-- A list of zeros, but for its last bracket. -/
def zerosL (k : Nat) : List UInt8 := 91 :: joinC (List.replicate k [48])
theorem zerosL_step (k : Nat) : zerosL (k + 1) = zerosL k ++ (if k = 0 then [] else [44]) ++ [48] := by
  unfold zerosL
  rw [List.replicate_succ', joinC_snoc]
  cases k with
  | zero => rfl
  | succ k => simp [List.replicate_succ]
theorem zerosL_len (k : Nat) (h : 0 < k) : (zerosL k).length = 2 * k := by
  unfold zerosL
  have h1 := joinC_sumC (List.replicate k [48]) (by cases k with | zero => omega | succ k => simp [List.replicate_succ])
  have h2 : sumC (List.replicate k ([48] : List UInt8)) = 2 * k := by simp [sumC, Nat.mul_comm]
  rw [List.length_cons]
  omega
set_option maxRecDepth 100000 in
set_option maxHeartbeats 4000000 in
theorem zeros_any (N : Nat) (w : World) (hN0 : 0 < N) (hN : N ≤ 10000) :
    Calls Tryz.prog 16 #[.int .i64 N] w fun e w' => e = .returned (.string ⟨(zerosL N ++ [93]).toArray⟩) ∧ Below w.heap.size w w' := by
  obtain ⟨i0, hi, hz0, hz1, hz2⟩ := info_parts infoUb
  go_enter Tryz.func16, Tryz.ntmps16
  go_wp2_with fail
  go_loopw [3, 4] (fun v i wr => ∃ (k g n cap : Nat), k ≤ N ∧ i = .int .i64 k ∧ v = .slice (some ⟨g, 0, none⟩) n cap ∧ n ≤ 20001 ∧ w.heap.size ≤ g ∧ OwnB wr w.heap.size g n cap (zerosL k) ∧ Below w.heap.size w wr) (fun _ i _ => N - (intOf i).toNat)
  case atStart => exact ⟨0, w.heap.size, 1, 1, by omega, rfl, rfl, by omega, by omega, own_first w 91, bel_alloc (Below.refl _ _) _⟩
  case round =>
    obtain ⟨k, g, n, cap, hk, rfl, rfl, hn, hgw, hO, hB⟩ := hrel
    have hown := hO.2
    have HO := Lib.hid hO
    clear hO
    have hsz := hB.size
    by_cases hkl : k < N
    · have hst := zerosL_step k
      have HST := Lib.hid hst
      have hlen : n + 2 ≤ 20001 := by
        have h1 := HO.out.1
        by_cases h0 : k = 0
        · subst h0
          have : (zerosL 0).length = 1 := rfl
          omega
        · rw [zerosL_len k (by omega)] at h1
          omega
      clear hst
      by_cases h0 : 0 < k
      · have h0i : (0 : Int) < (k : Int) := by omega
        go_wp2_with (at_builtin; refine wpList_append_lies _ rfl _ _ 36 rfl w.heap.size 5 i0 (.int .u8 0) 1 1 Tryz.underlying36 hi hz0 hz1 hz2 rfl (by decide) _ _ _ rfl (hown.alloc _) ⟨wr.heap.size, 0, none⟩ 1 1 [.int .u8 44] rfl rfl (one_news _ _) (one_cell _) (by decide) ?a3 ?a4 ?a5 (wr.heap.size + 1) (by simp) ?_)
        case a3 => unfold maxLen; omega
        case a4 => omega
        case a5 => first | (simp; omega) | omega
        intro g2 cap2 w2 hown2 hgrow hat hlt
        have hO2 : OwnB w2 w.heap.size g2 (n + 1) cap2 (zerosL k ++ [44]) := HO.out.more (c := 44) hown2
        have hB2 := ownB_below hB hgw hgrow
        have hg2 : w.heap.size ≤ g2 := by
          rcases hat with h | h
          · simp [Value.ownBlock] at h; omega
          · omega
        have hsz2 := hB2.size
        have hown3 := hO2.2
        have HO2 := Lib.hid hO2
        clear hown2 hgrow hat hO2
        go_wp2_with (at_builtin; refine wpList_append_lies _ rfl _ _ 36 rfl w.heap.size 5 i0 (.int .u8 0) 1 1 Tryz.underlying36 hi hz0 hz1 hz2 rfl (by decide) _ _ _ rfl (hown3.alloc _) ⟨w2.heap.size, 0, none⟩ 1 1 [.int .u8 48] rfl rfl (one_news _ _) (one_cell _) (by decide) ?b3 ?b4 ?b5 (w2.heap.size + 1) (by simp) ?_)
        case b3 => unfold maxLen; omega
        case b4 => omega
        case b5 => first | (simp; omega) | omega
        intro g3 cap3 w3 hown4 hgrow3 hat3 hlt3
        have hO3 := HO2.out.more (c := 48) hown4
        have hB3 := ownB_below hB2 hg2 hgrow3
        have hg3 : w.heap.size ≤ g3 := by
          rcases hat3 with h | h
          · simp [Value.ownBlock] at h; omega
          · omega
        have hO4 : OwnB w3 w.heap.size g3 (n + 1 + 1) cap3 (zerosL (k + 1)) := by rw [HST.out, if_neg (by omega)]; exact hO3
        clear hown3 hown4 hgrow3 hat3 hO3
        go_wp2_with fail
        exact ⟨⟨k + 1, g3, n + 1 + 1, cap3, by omega, by go_num, rfl, by omega, hg3, hO4, hB3⟩, by simp [intOf]; omega⟩
      · have h0i : ¬ (0 : Int) < (k : Int) := by omega
        go_wp2_with (at_builtin; refine wpList_append_lies _ rfl _ _ 36 rfl w.heap.size 5 i0 (.int .u8 0) 1 1 Tryz.underlying36 hi hz0 hz1 hz2 rfl (by decide) _ _ _ rfl (hown.alloc _) ⟨wr.heap.size, 0, none⟩ 1 1 [.int .u8 48] rfl rfl (one_news _ _) (one_cell _) (by decide) ?d3 ?d4 ?d5 (wr.heap.size + 1) (by simp) ?_)
        case d3 => unfold maxLen; omega
        case d4 => omega
        case d5 => first | (simp; omega) | omega
        intro g3 cap3 w3 hown4 hgrow3 hat3 hlt3
        have hO3 := HO.out.more (c := 48) hown4
        have hB3 := ownB_below hB hgw hgrow3
        have hg3 : w.heap.size ≤ g3 := by
          rcases hat3 with h | h
          · simp [Value.ownBlock] at h; omega
          · omega
        have hO4 : OwnB w3 w.heap.size g3 (n + 1) cap3 (zerosL (k + 1)) := by rw [HST.out, if_pos (by omega), List.append_nil]; exact hO3
        clear hown4 hgrow3 hat3 hO3
        go_wp2_with fail
        exact ⟨⟨k + 1, g3, n + 1, cap3, by omega, by go_num, rfl, by omega, hg3, hO4, hB3⟩, by simp [intOf]; omega⟩
    · obtain rfl : k = N := by omega
      go_wp2_with (at_builtin; refine wpList_append_lies _ rfl _ _ 36 rfl w.heap.size 5 i0 (.int .u8 0) 1 1 Tryz.underlying36 hi hz0 hz1 hz2 rfl (by decide) _ _ _ rfl (hown.alloc _) ⟨wr.heap.size, 0, none⟩ 1 1 [.int .u8 93] rfl rfl (one_news _ _) (one_cell _) (by decide) ?e3 ?e4 ?e5 (wr.heap.size + 1) (by simp) ?_)
      case e3 => unfold maxLen; omega
      case e4 => omega
      case e5 => first | (simp; omega) | omega
      intro g2 cap2 w2 hown2 hgrow hat hlt
      have hO2 : OwnB w2 w.heap.size g2 (n + 1) cap2 (zerosL k ++ [93]) := HO.out.more (c := 93) hown2
      have hcv := hO2.conv
      have hB2 := ownB_below hB hgw hgrow
      clear hown2 hgrow hat hO2
      go_wp2_with fail
      go_ret
      exact ⟨rfl, hB2⟩

/-! What is read of them. -/
def zeroN : JV := .mk 2 0 ⟨#[]⟩ [] []
theorem sp_zero : Sp zeroN [48] := sp_leaf (l := [48]) (k := 9) (n := 0) (t := []) (by simp) (by decide) rfl (by simp)
theorem sps_zeros : ∀ k, Sps (List.replicate k zeroN) (List.replicate k [48])
  | 0 => .nil
  | k + 1 => .cons sp_zero (sps_zeros k)
theorem zeros_count : ∀ k, countL (List.replicate k zeroN) = k ∧ depthL (List.replicate k zeroN) = 0
  | 0 => ⟨rfl, rfl⟩
  | k + 1 => by
    obtain ⟨h1, h2⟩ := zeros_count k
    rw [List.replicate_succ, countL, depthL, h1, h2]
    have e1 : countV zeroN = 1 := rfl
    have e2 : depthV zeroN = 0 := rfl
    omega
theorem read_zeros (k : Nat) (h0 : 0 < k) (h : k ≤ 8191) : ∃ ms c, readV (zerosL k ++ [93]) = .ok (listV (List.replicate k zeroN)) ms c := by
  have hs : Sp (listV (List.replicate k zeroN)) (zerosL k ++ [93]) := sp_list (a := []) (sps_zeros k) (fun c hc => by cases hc)
  have hl := zerosL_len k h0
  obtain ⟨h1, h2⟩ := zeros_count k
  have hc : countV (listV (List.replicate k zeroN)) = 1 + countL (List.replicate k zeroN) := countV_eq _
  have hd : depthV (listV (List.replicate k zeroN)) = depthL (List.replicate k zeroN) + 1 := depthV_eq _
  obtain ⟨ms, e⟩ := hs.read (by rw [List.length_append, hl, List.length_singleton]; omega) (by omega) (by omega)
  exact ⟨ms, _, e⟩
theorem zeros_items (d : Nat) : ∀ (k q : Nat) (b : List UInt8), ∃ r, lexes (joinC (List.replicate (k + 1) [48]) ++ 93 :: b) q = .tok ⟨9, q, q + 1, 0, []⟩ :: r ∧ k ≤ r.length ∧
    ∀ c acc f, c ≤ 8192 → 8192 < c + k + 1 → 8192 - c < f → itemsP (valP d) f ⟨9, q, q + 1, 0, []⟩ r c acc = .bad (q + 2 * (8192 - c)) 5
  | 0, q, b => by
    have h1 := lexes_one (l := [48]) (b := 93 :: b) (k := 9) (n := 0) (t := []) (by simp) (by decide) rfl (by decide) (stop_sign b (by decide)) q
    refine ⟨_, h1, Nat.zero_le _, fun c acc f hc hk hf => ?_⟩
    obtain rfl : c = 8192 := by omega
    match f, hf with
    | f + 1, _ =>
      have hv : ∀ ms, valP d ⟨9, q, q + 1, 0, []⟩ ms 8192 = .bad q 5 := fun ms => by
        unfold valP
        rw [if_neg (by simp [begV]), if_pos (Nat.le_refl _)]
      rw [itemsP, hv]
      rfl
  | k + 1, q, b => by
    obtain ⟨r1, h2, h3, h4⟩ := zeros_items d k (q + 1 + 1) b
    have h1 := lexes_one (l := [48]) (b := 44 :: (joinC (List.replicate (k + 1) [48]) ++ 93 :: b)) (k := 9) (n := 0) (t := []) (by simp) (by decide) rfl (by decide) (stop_sign _ (by decide)) q
    have h5 := lexes_sign 44 (joinC (List.replicate (k + 1) [48]) ++ 93 :: b) (q + 1) (by decide) (by decide)
    have e : joinC (List.replicate (k + 1 + 1) [48]) ++ 93 :: b = [48] ++ 44 :: (joinC (List.replicate (k + 1) [48]) ++ 93 :: b) := by
      rw [List.replicate_succ, List.replicate_succ, joinC]
      simp
    refine ⟨.tok ⟨signOf 44, q + 1, q + 1 + 1, 0, []⟩ :: .tok ⟨9, q + 1 + 1, q + 1 + 1 + 1, 0, []⟩ :: r1, ?_, by simp only [List.length_cons]; omega, fun c acc f hc hk hf => ?_⟩
    · have h1' : lexes ([48] ++ 44 :: (joinC (List.replicate (k + 1) [48]) ++ 93 :: b)) q = .tok ⟨9, q, q + 1, 0, []⟩ :: lexes (44 :: (joinC (List.replicate (k + 1) [48]) ++ 93 :: b)) (q + 1) := h1
      rw [e, h1', h5, h2]
    · match f, hf with
      | f + 1, hf =>
        by_cases hc8 : c = 8192
        · subst hc8
          have hv : ∀ ms, valP d ⟨9, q, q + 1, 0, []⟩ ms 8192 = .bad q 5 := fun ms => by
            unfold valP
            rw [if_neg (by simp [begV]), if_pos (Nat.le_refl _)]
          rw [itemsP, hv]
          rfl
        · have hv : ∀ ms, valP d ⟨9, q, q + 1, 0, []⟩ ms c = .ok (leafV ⟨9, q, q + 1, 0, []⟩) ms (c + 1) := fun ms => by
            unfold valP
            rw [if_neg (by simp [begV]), if_neg (by omega), if_pos (by simp)]
          have h6 := h4 (c + 1) (acc ++ [leafV ⟨9, q, q + 1, 0, []⟩]) f (by omega) (by omega) (by omega)
          rw [show q + 1 + 1 + 2 * (8192 - (c + 1)) = q + 2 * (8192 - c) by omega] at h6
          rw [itemsP, hv, ← h6]
          rfl
theorem read_zeros_long : readV (zerosL 8192 ++ [93]) = .bad 16383 5 := by
  obtain ⟨r, h1, h2, h3⟩ := zeros_items 11 8191 1 []
  have hl := zerosL_len 8192 (by omega)
  have h4 := lexes_sign 91 (joinC (List.replicate (8191 + 1) [48]) ++ 93 :: []) 0 (by decide) (by decide)
  have e : zerosL 8192 ++ [93] = 91 :: (joinC (List.replicate (8191 + 1) [48]) ++ 93 :: []) := rfl
  unfold readV
  rw [if_neg (by rw [List.length_append, hl, List.length_singleton]; omega), e, h4, h1]
  show topP _ _ = _
  unfold topP
  have hv : valP 12 ⟨signOf 91, 0, 0 + 1, 0, []⟩ (.tok ⟨9, 1, 1 + 1, 0, []⟩ :: r) 0 = itemsP (valP 11) (r.length + 1) ⟨9, 1, 1 + 1, 0, []⟩ r 1 [] := by
    rw [valP, if_neg (by decide), if_neg (by decide), if_neg (by decide), if_pos (by decide)]
    rfl
  rw [hv, h3 1 [] (r.length + 1) (by omega) (by omega) (by omega)]
theorem read_blanks (n : Nat) (h : n ≤ 65536) : readV (List.replicate n (32 : UInt8)) = .bad n 4 := by
  unfold readV
  rw [List.length_replicate, if_neg (by omega), lexes_blanks (fun c hc => by rw [(List.mem_replicate.1 hc).2]; rfl)]
  show topP ⟨11, 0 + (List.replicate n (32 : UInt8)).length, 0 + (List.replicate n (32 : UInt8)).length, 0, []⟩ [] = PR.bad n 4
  unfold topP
  have hv : valP 12 ⟨11, 0 + (List.replicate n (32 : UInt8)).length, 0 + (List.replicate n (32 : UInt8)).length, 0, []⟩ [] 0 = .bad (0 + (List.replicate n (32 : UInt8)).length) 4 := by
    rw [valP, if_pos (by simp [begV])]
    rfl
  rw [hv, List.length_replicate, Nat.zero_add]
theorem read_long (n : Nat) (h : 65536 < n) : readV (List.replicate n (32 : UInt8)) = .bad 0 5 := by
  unfold readV
  rw [List.length_replicate, if_pos h]
end Go.Proofs.YtngebebhaehmnaaGreatDoor
