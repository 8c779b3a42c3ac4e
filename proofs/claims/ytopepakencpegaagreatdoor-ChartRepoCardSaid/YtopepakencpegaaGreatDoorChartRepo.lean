/-
  The walk of ChartRepo.
-/
import Derived.Test.YtopepakencpegaaGreatDoorChartRp
import Derived.Deep.DeepCutAuto
namespace Go.Proofs.YtopepakencpegaaGreatDoor
open Go.RowKit

/-- Where the map that is made stands: its block, the repositories so far, those of the map that came in. -/
def RpSt (w wr : World) (nb H0 : Nat) (mc : Array Value) (v2 : Value) (gs : List RX) (ia : Option Addr) (q ic : Nat) : Prop := gs.length = q ∧ Below w.heap.size w wr ∧ H0 ≤ wr.heap.size ∧ BlkAt wr w.heap.size 32 mc ∧ BlkAt wr nb 32 #[.slice ia q ic, v2] ∧ wr.ownsRow H0 38 2 (.slice ia q ic) q (rxCells gs) ∧ ∀ g ∈ gs, g.r.1.size ≤ maxLen ∧ StrsAt w (.slice g.a g.r.2.length g.c) g.r.2
theorem RpSt.keep {w wr Y : World} {nb H0 : Nat} {mc : Array Value} {v2 : Value} {gs : List RX} {ia : Option Addr} {q ic : Nat} (h : RpSt w wr nb H0 mc v2 gs ia q ic) (hb : Below wr.heap.size wr Y) : RpSt w Y nb H0 mc v2 gs ia q ic :=
  ⟨h.1, below_more h.2.1 hb, Nat.le_trans h.2.2.1 hb.size, BlkAt.keep h.2.2.2.1 hb, BlkAt.keep h.2.2.2.2.1 hb, ownsRow_keep h.2.2.2.2.2.1 hb, h.2.2.2.2.2.2⟩
/-- One more is appended, and the row stored. -/
theorem RpSt.app {w Y w6 : World} {nb H0 : Nat} {mc : Array Value} {v2 : Value} {gs : List RX} {g : RX} {ia : Option Addr} {q ic gg cp : Nat} (h : RpSt w Y nb H0 mc v2 gs ia q ic) (hn : nb < H0) (hw : w.heap.size < nb)
    (hown : w6.ownsRow H0 38 2 (.slice (some ⟨gg, 0, none⟩) (q + 1) cp) (q + 1) (rxCells gs ++ g.cells)) (hg : Y.grownBy w6 (Value.slice ia q ic).ownBlock) (hz : g.r.1.size ≤ maxLen ∧ StrsAt w (.slice g.a g.r.2.length g.c) g.r.2) :
    RpSt w (w6.setCell ⟨nb, 0, none⟩ (.slice (some ⟨gg, 0, none⟩) (q + 1) cp)) nb H0 mc v2 (gs ++ [g]) (some ⟨gg, 0, none⟩) (q + 1) cp ∧ BlkAt w6 nb 32 #[.slice ia q ic, v2] := by
  obtain ⟨h1, h2, h3, h4, h5, h6, h7⟩ := h
  have hlt : ∀ k, (Value.slice ia q ic).ownBlock = some k → H0 ≤ k := fun k hk => (World.ownsRow.lt h6 k hk).1
  have k5 : BlkAt w6 nb 32 #[.slice ia q ic, v2] := BlkAt.grown h5 hg (fun e => by have := hlt _ e.symm; omega)
  have k4 : BlkAt w6 w.heap.size 32 mc := BlkAt.grown h4 hg (fun e => by have := hlt _ e.symm; omega)
  have hgg := (World.ownsRow.lt hown gg rfl).1
  have hb6 : Below w.heap.size w w6 := h2.grown hg h2.size (fun k hk => by have := hlt k hk; omega)
  refine ⟨⟨by rw [List.length_append, h1]; rfl, bel_set hb6 (by show w.heap.size ≤ nb; omega) _, ?_, BlkAt.set_far k4 (by omega) 0 _, BlkAt.set k5 0 _, ?_, fun x hx => ?_⟩, k5⟩
  · rw [setCell_size]
    exact Nat.le_trans h3 hg.size
  · rw [show rxCells (gs ++ [g]) = rxCells gs ++ g.cells by simp [rxCells]]
    exact hown.kept (grown_set (World.grownBy.refl _ _) _ _) (Or.inr (fun e => by
      have e' : some gg = some nb := e
      injection e' with e'
      omega))
  · rcases List.mem_append.1 hx with hx | hx
    · exact h7 x hx
    · rw [List.mem_singleton.1 hx]
      exact hz
/-- A map with one repository alone, as Long is handed it behind another map. -/
theorem longAt_repo {w : World} {b b2 : Nat} {M : MapP} {y : RepoP} {a1 a2 ua : Option Addr} {n1 c1 n2 c2 ul uc : Nat} (hk : BlkAt w b 32 #[.slice a1 n1 c1, .slice a2 n2 c2, .slice (some ⟨b2, 0, none⟩) 1 1, .slice none 0 0]) (hr2 : BlkAt w b2 38 #[.string y.1, .slice ua ul uc]) (h : MapAt w (.agg #[.slice a1 n1 c1, .slice a2 n2 c2]) M) (hz : y.1.size ≤ maxLen) (hu : StrsAt w (.slice ua ul uc) y.2) : LongAt w (.slice (some ⟨b, 0, none⟩) 2 2) [M, ⟨[y], []⟩] := by
  obtain ⟨b1, d1, b2', d2, e, hr, hm⟩ := h.parts
  simp only [Value.agg.injEq, Array.mk.injEq, List.cons.injEq, Value.slice.injEq, and_true] at e
  obtain ⟨⟨rfl, rfl, rfl⟩, rfl, rfl, rfl⟩ := e
  refine ⟨by show 2 ≤ 1000; decide, b, 0, 2, rfl, fun i M' hi => ?_⟩
  match i, hi with
  | 0, hi =>
    obtain rfl : M = M' := by simpa using hi
    exact ⟨_, _, _, _, by rw [BlkAt.cell hk]; rfl, by rw [BlkAt.cell hk]; rfl, hr, hm⟩
  | 1, hi =>
    obtain rfl : (⟨[y], []⟩ : MapP) = M' := by simpa using hi
    refine ⟨some ⟨b2, 0, none⟩, 1, none, 0, by rw [BlkAt.cell hk]; rfl, by rw [BlkAt.cell hk]; rfl, ⟨by show 1 ≤ 9223372036854775807; decide, _, _, rfl, fun i r hr => ?_⟩, ⟨by show 0 ≤ 9223372036854775807; decide, fun a n c e => by
      have e2 : (Value.slice none 0 0) = .slice a n c := e
      simp only [Value.slice.injEq] at e2
      omega, _, _, rfl, fun i x hx => by simp at hx⟩⟩
    match i, hr with
    | 0, hr =>
      obtain rfl : y = r := by simpa using hr
      exact ⟨b2, 0, _, rfl, by rw [BlkAt.cell hr2]; rfl, by rw [BlkAt.cell hr2]; rfl, hz, hu⟩
    | i + 1, hr => simp at hr
  | i + 2, hi => simp at hi
/-- What each operation yields of the statement that appends a repository that was there. -/
def rpD (nb wq : Nat) (sv rv : Value) (j xb xo : Nat) (nm : ByteArray) (xv : Value) (k : Nat) (v : Value) (w : World) : Prop :=
  match k with
  | 0 => v = .pointer (some ⟨nb, 0, none⟩)
  | 1 => v = sv
  | 2 => v = .pointer (some ⟨wq, 0, none⟩)
  | 3 => v = rv
  | 4 => v = .int .i64 j
  | 5 => v = .pointer (some ⟨xb, xo + j * 2, none⟩)
  | 6 => v = .agg #[.string nm, xv]
  | 7 => ∃ b, v = .slice (some ⟨b, 0, none⟩) 1 1 ∧ BlkAt w b 38 #[.string nm, xv]
  | _ => True
theorem rpD_keep {nb wq : Nat} {sv rv : Value} {j xb xo : Nat} {nm : ByteArray} {xv : Value} : ∀ k v w w', rpD nb wq sv rv j xb xo nm xv k v w → Below w.heap.size w w' → rpD nb wq sv rv j xb xo nm xv k v w' := by
  intro k v w w' h hb
  unfold rpD at h ⊢
  split at h <;> try exact h
  obtain ⟨b, h1, h2⟩ := h
  exact ⟨b, h1, BlkAt.keep h2 hb⟩
/-- The map that was made, as it lies. -/
theorem RpSt.at {w wr : World} {nb H0 : Nat} {mc : Array Value} {v2 : Value} {gs : List RX} {ia : Option Addr} {q ic : Nat} (h : RpSt w wr nb H0 mc v2 gs ia q ic) (hl : gs.length ≤ 9223372036854775807) : ReposAt wr (.slice ia q ic) (gs.map RX.r) := by
  obtain ⟨h1, h2, h3, h4, h5, h6, h7⟩ := h
  have h' := h6
  refine ⟨by rw [List.length_map]; exact hl, ?_⟩
  rcases h6.2 with ⟨hv, h0⟩ | ⟨g, cap, cur, hv, hB, hcl, hcp, _⟩
  · have : gs = [] := List.length_eq_zero_iff.1 (by omega)
    subst this
    exact ⟨ia, ic, by rw [List.map_nil, List.length_nil, h0], fun i x hx => by simp at hx⟩
  · simp only [Value.slice.injEq, true_and] at hv
    obtain ⟨rfl, rfl⟩ := hv
    refine ⟨some ⟨g, 0, none⟩, ic, by rw [List.length_map, h1], fun i x hx => ?_⟩
    rw [List.getElem?_map] at hx
    obtain ⟨y, hy, rfl⟩ := Option.map_eq_some_iff.1 hx
    have hm := List.mem_of_getElem? hy
    have hcc := World.ownsRow.cells h' (g := g) rfl
    have hadd : ∀ j, (⟨g, 0, none⟩ : Addr).add j = ⟨g, j, none⟩ := fun j => by rw [add_none, Nat.zero_add]
    have hcell : ∀ j c, j < 2 → y.cells[j]? = some c → wr.cell? ⟨g, 0 + i * 2 + j, none⟩ = some c := fun j c hj hc => by
      rw [show 0 + i * 2 + j = i * 2 + j by omega, ← hadd]
      exact hcc _ _ ((rxCells_get gs i y hy j hj).trans hc)
    exact ⟨g, 0, _, rfl, hcell 0 _ (by omega) rfl, hcell 1 _ (by omega) rfl, (h7 y hm).1, (h7 y hm).2.keep h2⟩
set_option maxRecDepth 100000 in
set_option maxHeartbeats 64000000 in
theorem chartRepo_walk (M : MapP) (repo : ByteArray) (us : List ByteArray) (p : ByteArray) (v u : Value) (w : World) (h : MapAt w v M) (hrz : repo.size ≤ maxLen) (hu : StrsAt w u us) (hp : p.size ≤ maxLen) (henv : NumEnv w) :
    Calls Tryz.prog 6 #[v, .string repo, u, .string p] w fun e w' => e = .returned (.bool true) ∧ Below w.heap.size w w' := by
  have HMH := Lib.hid h
  have HAW := Lib.hid (fun W (hb : Below w.heap.size w W) => awake25_any W (henv.below hb))
  obtain ⟨a1, c1, a2, c2, rfl, hr, hm⟩ := h.parts
  obtain ⟨ra', rc', e1, -, hrc⟩ := hr.at
  simp only [Value.slice.injEq, true_and] at e1
  obtain ⟨rfl, rfl⟩ := e1
  obtain ⟨ua, uc, rfl, hul, -, huc⟩ := hu.parts
  obtain ⟨rs, hrs⟩ : ∃ n, M.repos = n := ⟨_, rfl⟩
  obtain ⟨n1, hn1⟩ : ∃ n, rs.length = n := ⟨_, rfl⟩
  obtain ⟨n2, hn2⟩ : ∃ n, M.maps.length = n := ⟨_, rfl⟩
  obtain ⟨ul, hul'⟩ : ∃ n, us.length = n := ⟨_, rfl⟩
  rw [hrs] at hrc
  rw [hrs, hn1, hn2] at HMH ⊢
  rw [hul'] at hu hul ⊢
  obtain ⟨w1, hw1⟩ : ∃ y, y = w.alloc (.cells #[.slice a1 n1 c1, .slice a2 n2 c2] 32) := ⟨_, rfl⟩
  obtain ⟨w2, hw2⟩ : ∃ y, y = w1.alloc (.cells #[.string repo, .slice ua ul uc] 38) := ⟨_, rfl⟩
  obtain ⟨w3, hw3⟩ : ∃ y, y = w2.alloc (.cells #[.slice a1 n1 c1, .slice a2 n2 c2, .slice (some ⟨w.heap.size + 1, 0, none⟩) 1 1, .slice none 0 0] 32) := ⟨_, rfl⟩
  have hb1 : Below w.heap.size w w1 := by rw [hw1]; exact bel_alloc (Below.refl _ _) _
  have hb2 : Below w1.heap.size w1 w2 := by rw [hw2]; exact bel_alloc (Below.refl _ _) _
  have hb3 : Below w2.heap.size w2 w3 := by rw [hw3]; exact bel_alloc (Below.refl _ _) _
  have e1 : w1.heap.size = w.heap.size + 1 := by rw [hw1, size_al]
  have e2 : w2.heap.size = w.heap.size + 1 + 1 := by rw [hw2, size_al, e1]
  have k1 : BlkAt w1 w.heap.size 32 #[.slice a1 n1 c1, .slice a2 n2 c2] := by rw [hw1]; exact blkAt_new w _ _
  have k2 : BlkAt w2 (w.heap.size + 1) 38 #[.string repo, .slice ua ul uc] := by rw [hw2, ← e1]; exact blkAt_new w1 _ _
  have k3 : BlkAt w3 (w.heap.size + 1 + 1) 32 #[.slice a1 n1 c1, .slice a2 n2 c2, .slice (some ⟨w.heap.size + 1, 0, none⟩) 1 1, .slice none 0 0] := by rw [hw3, ← e2]; exact blkAt_new w2 _ _
  have b13 := below_more hb2 hb3
  have B3 := Lib.hid (below_more hb1 b13)
  have K3 := Lib.hid (BlkAt.keep k1 b13)
  have M3 := Lib.hid (HMH.out.keep (below_more hb1 b13))
  have W3 : Hid (w3 = ((w.alloc (.cells #[.slice a1 n1 c1, .slice a2 n2 c2] 32)).alloc (.cells #[.string repo, .slice ua ul uc] 38)).alloc (.cells #[.slice a1 n1 c1, .slice a2 n2 c2, .slice (some ⟨w.heap.size + 1, 0, none⟩) 1 1, .slice none 0 0] 32)) := by show _ = _; rw [hw3, hw2, hw1]
  have HRC := Lib.hid hrc
  have HRS := Lib.hid hrs
  have HN1 := Lib.hid hn1
  have HN2 := Lib.hid hn2
  have HUL := Lib.hid hul'
  have HU := Lib.hid hu
  have HUC := Lib.hid huc
  have HPS := Lib.hid hp
  have HRZ := Lib.hid hrz
  obtain ⟨lg, hlg⟩ : ∃ b, decide (20000 ≤ longLg 0 [M, ⟨[(repo, us)], []⟩]) = b := ⟨_, rfl⟩
  have HL := Lib.hid (longB [M, ⟨[(repo, us)], []⟩] _ w3 (longAt_repo (y := (repo, us)) k3 (BlkAt.keep k2 hb3) M3.out hrz (hu.keep B3.out)) lg hlg)
  have HLG := Lib.hid hlg
  obtain ⟨i0, hi, hz0, hz1, hz2⟩ := info_parts infoRepo
  have HI := Lib.hid hi
  have HZ0 := Lib.hid hz0
  have HZ1 := Lib.hid hz1
  have HZ2 := Lib.hid hz2
  obtain ⟨m0, m1, mf⟩ := b2 (show BlkAt (w.alloc (.cells #[.slice a1 n1 c1, .slice a2 n2 c2] 32)) w.heap.size 32 #[.slice a1 n1 c1, .slice a2 n2 c2] from blkAt_new w _ _)
  clear h hr hm hrc hrs hn1 hn2 hul' hu huc hp hrz henv hi hz0 hz1 hz2 hw1 hw2 hw3 hb1 hb2 hb3 b13 e1 e2 k1 k2 k3 hlg
  go_enter Tryz.func6, Tryz.ntmps6
  go_wp2_with fail
  rw [← W3.out]
  refine HL.out.mono ?_
  rintro e w4 ⟨rfl, hb4⟩
  have B4 := Lib.hid (below_more B3.out hb4)
  have K4 := Lib.hid (BlkAt.keep K3.out hb4)
  have M4 := Lib.hid (M3.out.keep hb4)
  obtain ⟨m0, m1, mf⟩ := b2 K4.out
  clear hb4 HL W3 K3 M3 B3
  cases lg with
  | true =>
    go_wp2_with fail
    refine (HAW.out _ B4.out).mono ?_
    rintro e w5 ⟨rfl, hb5⟩
    have B5 := Lib.hid (below_more B4.out hb5)
    clear hb5
    go_wp2_with fail
    go_ret
    exact ⟨rfl, B5.out⟩
  | false =>
    have hfew : ∀ K ∈ [M, (⟨[(repo, us)], []⟩ : MapP)], FewM K := longLg_small _ 0 (by have := of_decide_eq_false HLG.out; omega)
    have HFW := Lib.hid (hfew M List.mem_cons_self)
    have HSU := Lib.hid (long_us (M := M) (y := (repo, us)) (by have := of_decide_eq_false HLG.out; omega))
    have hus4 : ul ≤ 4000 := by
      have := (hfew ⟨[(repo, us)], []⟩ (by simp)).2.2.1 (repo, us) (by simp)
      rw [← HUL.out]; exact this
    clear hfew HLG
    obtain ⟨ps, hps⟩ : ∃ n, p.size = n := ⟨_, rfl⟩
    by_cases h1000 : 1000 < ps
    · have g1 : (1000 : Int) < (ps : Int) := by omega
      go_wp2_with fail
      refine (HAW.out _ B4.out).mono ?_
      rintro e w5 ⟨rfl, hb5⟩
      have B5 := Lib.hid (below_more B4.out hb5)
      clear hb5
      go_wp2_with fail
      go_ret
      exact ⟨rfl, B5.out⟩
    · have g1 : ¬ (1000 : Int) < (ps : Int) := by omega
      go_wp2_with fail
      obtain ⟨mb, hmb⟩ : ∃ b, mayM M = b := ⟨_, rfl⟩
      have hmy := cMay_any M _ w4 M4.out
      rw [hmb] at hmy
      refine hmy.mono ?_
      rintro e w5 ⟨rfl, hb5⟩
      have B5 := Lib.hid (below_more B4.out hb5)
      have K5 := Lib.hid (BlkAt.keep K4.out hb5)
      have M5 := Lib.hid (M4.out.keep hb5)
      obtain ⟨m0, m1, mf⟩ := b2 K5.out
      have HMB := Lib.hid hmb
      clear hb5 hmy hmb K4 M4 B4
      cases mb with
      | false =>
        go_wp2_with fail
        refine (HAW.out _ B5.out).mono ?_
        rintro e w6 ⟨rfl, hb6⟩
        have B6 := Lib.hid (below_more B5.out hb6)
        clear hb6
        go_wp2_with fail
        go_ret
        exact ⟨rfl, B6.out⟩
      | true =>
        go_wp2_with fail
        refine (HAW.out _ B5.out).mono ?_
        rintro e w6 ⟨rfl, hb6⟩
        have B6 := Lib.hid (below_more B5.out hb6)
        have K6 := Lib.hid (BlkAt.keep K5.out hb6)
        obtain ⟨m0, m1, mf⟩ := b2 K6.out
        have hn18 : n1 ≤ 8 := by have := (mayM_parts HMB.out).2.1; rw [HRS.out, HN1.out] at this; exact this
        -- the map that is made
        obtain ⟨w8, hw8⟩ : ∃ y, y = w6.alloc (.cells #[.slice none 0 0, .slice a2 n2 c2] 32) := ⟨_, rfl⟩
        have hb8 : Below w6.heap.size w6 w8 := by rw [hw8]; exact bel_alloc (Below.refl _ _) _
        have k8 : BlkAt w8 w6.heap.size 32 #[.slice none 0 0, .slice a2 n2 c2] := by rw [hw8]; exact blkAt_new w6 _ _
        have hws : w.heap.size < w6.heap.size := K6.out.lt
        have hst : RpSt w w8 w6.heap.size (w6.heap.size + 1) #[.slice a1 n1 c1, .slice a2 n2 c2] (.slice a2 n2 c2) [] none 0 0 := ⟨rfl, below_more B6.out hb8, by rw [hw8, size_al]; exact Nat.le_refl _, BlkAt.keep K6.out hb8, k8, World.ownsRow_nil _ _ _ _, by simp⟩
        have HST := Lib.hid hst
        have W8 := Lib.hid hw8
        clear hb6 hb8 hw8 k8 hst M5 B5 K5
        go_wp2_with fail
        rw [← W8.out]
        obtain ⟨nb, hnb⟩ : ∃ z, w6.heap.size = z := ⟨_, rfl⟩
        rw [hnb] at HST hws ⊢
        clear hnb m0 m1 mf
        go_loopw [10, 11, 12] (fun hv pv i wr => ∃ (j : Nat) (gs : List RX) (ia : Option Addr) (q ic : Nat) (hb pb : Bool), j ≤ n1 ∧ i = .int .i64 j ∧ hv = .bool hb ∧ pv = .bool pb ∧ Hid (hb = hereB repo (rs.take j)) ∧ Hid (gs.map RX.r ++ insR (repo, us) pb (rs.drop j) = insR (repo, us) false rs) ∧ Hid (RpSt w wr nb (nb + 1) #[.slice a1 n1 c1, .slice a2 n2 c2] (.slice a2 n2 c2) gs ia q ic)) (fun _ _ i _ => n1 - (intOf i).toNat)
        case atStart => exact ⟨0, [], none, 0, 0, false, false, by omega, rfl, rfl, rfl, rfl, rfl, HST⟩
        case round =>
          obtain ⟨j, gs, ia, q, ic, hb, pb, hj, rfl, rfl, rfl, HHB, HIN, HSR⟩ := hrel
          obtain ⟨m0, m1, mf⟩ := b2 HSR.out.2.2.2.1
          obtain ⟨v0, v1, vf⟩ := b2 HSR.out.2.2.2.2.1
          by_cases hjn : j < n1
          · obtain ⟨r, hr⟩ : ∃ s, rs[j]? = some s := ⟨_, List.getElem?_eq_getElem (by rw [HN1.out]; exact hjn)⟩
            obtain ⟨xb, xo, xa, xc, rfl, t0, t1, hsz, s1⟩ := HRC.out j r hr
            have hst := insR_step (y := (repo, us)) (put := pb) hr
            have hstep : hereB repo (rs.take (j + 1)) = (hereB repo (rs.take j) || decide (r.1 = repo)) := by
              unfold hereB
              rw [List.take_add_one, hr, List.any_append]
              simp
            obtain ⟨nm, ru⟩ := r
            simp only at t0 t1 hsz s1 hst hstep
            obtain ⟨rl, hrl⟩ : ∃ z, ru.length = z := ⟨_, rfl⟩
            have hru : StrsAt w (.slice xa ru.length xc) ru := s1
            rw [hrl] at t1 s1
            have T0 := Lib.hid t0
            have T1 := Lib.hid t1
            have t0 := cell_keep HSR.out.2.1 t0
            have t1 := cell_keep HSR.out.2.1 t1
            have i0' : (0 : Int) ≤ (j : Int) := by omega
            have i1' : (j : Int) < (n1 : Int) := by omega
            have HST2 := Lib.hid hst
            have HHS := Lib.hid hstep
            have HRU := Lib.hid hru
            have HSZ := Lib.hid hsz
            have HRL := Lib.hid hrl
            clear hr hst hstep hru s1 hsz hrl
            go_upto_region 9 with fail
            go_cut [10] (fun hv wx => hv = .bool (hereB repo (rs.take (j + 1))) ∧ wr = wx)
            case first =>
              cases hb with
              | true =>
                have hh : hereB repo (rs.take (j + 1)) = true := by rw [HHS.out, ← HHB.out]; rfl
                go_wp2_with fail
                go_meet
                exact ⟨by rw [hh], rfl⟩
              | false =>
                by_cases e : nm = repo
                · have hh : hereB repo (rs.take (j + 1)) = true := by rw [HHS.out, decide_eq_true e, Bool.or_true]
                  have e1 : (nm.toList == repo.toList) = true := by rw [e]; simp
                  go_wp2_with fail
                  go_meet
                  refine ⟨?_, rfl⟩
                  first | (rw [hh]; done) | (rw [hh]; exact congrArg Value.bool e1) | (rw [hh]; simp [e1])
                · have hh : hereB repo (rs.take (j + 1)) = false := by rw [HHS.out, ← HHB.out, decide_eq_false e]; rfl
                  have e1 : (nm.toList == repo.toList) = false := beq_eq_false_iff_ne.2 (fun h => e (bytes_eq ((toList_data nm).symm.trans (h.trans (toList_data repo)))))
                  go_wp2_with fail
                  go_meet
                  exact ⟨by first | rw [hh] | (rw [hh]; simp [e, e1]), rfl⟩
            case rest =>
              obtain ⟨rfl, rfl⟩ := hcut
              obtain ⟨hb2, hhb2⟩ : ∃ b, hereB repo (rs.take (j + 1)) = b := ⟨_, rfl⟩
              rw [hhb2]
              have HHB2' : Hid (hb2 = hereB repo (rs.take (j + 1))) := hhb2.symm
              clear HHB HHS hhb2
              go_upto_region 10 with fail
              go_cut [69] (fun tv wx => tv = .bool (!pb && Op.bytesLess repo.toList nm.toList) ∧ wr = wx)
              case first =>
                cases pb with
                | true =>
                  go_wp2_with fail
                  go_meet
                  exact ⟨rfl, rfl⟩
                | false =>
                  go_wp2_with fail
                  go_meet
                  exact ⟨by first | rfl | simp, rfl⟩
              case rest =>
              obtain ⟨rfl, rfl⟩ := hcut
              obtain ⟨tb, htb⟩ : ∃ b, (!pb && Op.bytesLess repo.toList nm.toList) = b := ⟨_, rfl⟩
              rw [htb]
              have HTB := Lib.hid htb
              clear htb
              go_upto_if 69 with fail
              go_cut [11] (fun pv wx => ∃ (gs2 : List RX) (ia2 : Option Addr) (q2 ic2 : Nat) (pb2 : Bool), pv = .bool pb2 ∧ Hid (gs2.map RX.r ++ (nm, ru) :: insR (repo, us) pb2 (rs.drop (j + 1)) = insR (repo, us) false rs) ∧ Hid (RpSt w wx nb (nb + 1) #[.slice (some ⟨xb, xo, none⟩) n1 c1, .slice a2 n2 c2] (.slice a2 n2 c2) gs2 ia2 q2 ic2))
              case first =>
                cases tb with
                | false =>
                  have hin : gs.map RX.r ++ (nm, ru) :: insR (repo, us) pb (rs.drop (j + 1)) = insR (repo, us) false rs := by
                    have h1 := HIN.out
                    rw [HST2.out, if_neg] at h1
                    · exact h1
                    · rintro ⟨h2, h3⟩
                      have h4 := HTB.out
                      rw [h2, h3] at h4
                      cases h4
                  have HIN2 := Lib.hid hin
                  clear hin
                  go_wp2_with fail
                  go_meet
                  exact ⟨gs, ia, q, ic, pb, rfl, HIN2, HSR⟩
                | true =>
                  have h4 := HTB.out
                  rw [Bool.and_eq_true, Bool.not_eq_true'] at h4
                  have hin : (gs ++ [(⟨(repo, us), ua, uc⟩ : RX)]).map RX.r ++ (nm, ru) :: insR (repo, us) true (rs.drop (j + 1)) = insR (repo, us) false rs := by
                    have h1 := HIN.out
                    rw [HST2.out, if_pos h4] at h1
                    rw [List.map_append, List.append_assoc]
                    exact h1
                  have hq9 : q ≤ 9 := by
                    have h1 := congrArg List.length HIN.out
                    rw [List.length_append, List.length_map, HSR.out.1, insR_len, HN1.out] at h1
                    omega
                  have HIN2 := Lib.hid hin
                  obtain ⟨W9, hW9⟩ : ∃ y, y = wr.alloc (.cells #[.string repo, .slice ua ul uc] 38) := ⟨_, rfl⟩
                  have hb9 : Below wr.heap.size wr W9 := by rw [hW9]; exact bel_alloc (Below.refl _ _) _
                  have HS9 := Lib.hid (HSR.out.keep hb9)
                  have hnc : ∀ j u, ([.string repo, .slice ua ul uc] : List Value)[j]? = some u → W9.cell? ((⟨wr.heap.size, 0, none⟩ : Addr).add j) = some u := fun j u hj => by
                    have hadd : (⟨wr.heap.size, 0, none⟩ : Addr).add j = ⟨wr.heap.size, j, none⟩ := by rw [add_none, Nat.zero_add]
                    rw [hadd, hW9, cell_al_eq _ _ _ _ _ rfl]
                    simpa using hj
                  have hone : ∀ u ∈ ([.string repo, .slice ua ul uc] : List Value), u.oneCell' = true := fun u hu => by
                    simp only [List.mem_cons, List.not_mem_nil, or_false] at hu
                    rcases hu with rfl | rfl <;> rfl
                  have hm3 : nb + 1 ≤ W9.heap.size := HS9.out.2.2.1
                  have hO9 := HS9.out.2.2.2.2.2.1
                  have HW9 := Lib.hid hW9
                  rw [HW9.out] at hnc hm3 hO9
                  have HNC := Lib.hid hnc
                  have HONE := Lib.hid hone
                  have HM1 : Hid (q + 1 ≤ maxLen) := by show _ ≤ _; unfold maxLen; omega
                  have HM2 : Hid ((q + 1) * 40 ≤ 140737488355328) := by show _ ≤ _; omega
                  have HM3 := Lib.hid hm3
                  have HO9 := Lib.hid hO9
                  clear hin hb9 hnc hone hm3 hO9 hW9 h4 HTB
                  go_wp2_with (at_builtin; refine wpList_append_own_at _ rfl _ _ 29 rfl (nb + 1) 38 i0 (.agg #[.string ⟨#[]⟩, .slice none 0 0]) 2 40 Tryz.underlying29 HI.out HZ0.out HZ1.out HZ2.out rfl (by decide) _ _ _ rfl HO9.out ⟨_, 0, none⟩ 1 1 [.string repo, .slice ua ul uc] rfl rfl HNC.out HONE.out HM1.out HM2.out HM3.out ?_)
                  intro v' w9 hown9 hgrow9 _ hat9
                  obtain ⟨g9, p9, rfl, hg9, hg9'⟩ := World.ownsRow.form hown9 (by omega)
                  rw [← HW9.out] at hgrow9
                  have hA := RpSt.app (g := ⟨(repo, us), ua, uc⟩) HS9.out (Nat.lt_succ_self nb) hws (by
                    have h1 := hown9
                    rw [← HUL.out] at h1
                    exact h1) hgrow9 ⟨HRZ.out, by rw [HUL.out]; exact HU.out⟩
                  obtain ⟨hA1, hA2⟩ := hA
                  have HA1 := Lib.hid hA1
                  obtain ⟨z0, z1, zf⟩ := b2 hA2
                  clear hown9 hgrow9 hat9 hA1 hA2 HNC HONE HM1 HM2 HM3 HO9 HW9 HS9
                  go_wp2_with fail
                  go_meet
                  exact ⟨_, _, _, _, true, rfl, HIN2, HA1⟩
              case rest =>
                obtain ⟨gs2, ia2, q2, ic2, pb2, rfl, HIN2, HSR2⟩ := hcut
                clear m0 m1 mf v0 v1 vf t0 t1
                obtain ⟨m0, m1, mf⟩ := b2 HSR2.out.2.2.2.1
                obtain ⟨v0, v1, vf⟩ := b2 HSR2.out.2.2.2.2.1
                have t0 := cell_keep HSR2.out.2.1 T0.out
                have t1 := cell_keep HSR2.out.2.1 T1.out
                have hq9 : q2 ≤ 9 := by
                  have h1 := congrArg List.length HIN2.out
                  rw [List.length_append, List.length_map, HSR2.out.1, insR_len, HN1.out] at h1
                  omega
                go_wp2_with fail
                refine wp_region_any (by kernel_rfl) ?_
                refine wpAny_puts [(0, some 78), (1, some 79), (2, some 80), (3, some 81), (4, some 82), (5, some 83), (6, some 84), (7, some 85)] 8 [9, 10] (by kernel_rfl) (by kernel_rfl) (of_decide_eq_true (by kernel_rfl)) (fun w' => Below wc.heap.size wc w') (rpD nb w.heap.size (.slice ia2 q2 ic2) (.slice (some ⟨xb, xo, none⟩) n1 c1) j xb xo nm (.slice xa rl xc)) rpD_keep (bel_drew (Below.refl _ _)) ?_ ?_
                ·
                  refine PutSteps.at rfl (fun vs Y hG hdep K hK => ?_) ?_
                  · simp only [putsOf, List.foldl_cons, List.foldl_nil, Act.put, List.setIfInBounds_toArray, List.set_cons_zero, List.set_cons_succ] at hK ⊢
                    go_simp
                    exact hK.out (.pointer (some ⟨nb, 0, none⟩)) _ _ rfl hG (Below.refl _ _) rfl
                  refine PutSteps.at rfl (fun vs Y hG hdep K hK => ?_) ?_
                  · have e0 : vs 0 = .pointer (some ⟨nb, 0, none⟩) := hdep 0 rfl (by kernel_rfl)
                    have y0 := cell_keep hG v0
                    simp only [putsOf, List.foldl_cons, List.foldl_nil, Act.put, List.setIfInBounds_toArray, List.set_cons_zero, List.set_cons_succ] at hK ⊢
                    rw [e0] at hK ⊢
                    go_simp
                    exact hK.out (.slice ia2 q2 ic2) _ _ rfl hG (Below.refl _ _) rfl
                  refine PutSteps.at rfl (fun vs Y hG hdep K hK => ?_) ?_
                  · simp only [putsOf, List.foldl_cons, List.foldl_nil, Act.put, List.setIfInBounds_toArray, List.set_cons_zero, List.set_cons_succ] at hK ⊢
                    go_simp
                    exact hK.out (.pointer (some ⟨w.heap.size, 0, none⟩)) _ _ rfl hG (Below.refl _ _) rfl
                  refine PutSteps.at rfl (fun vs Y hG hdep K hK => ?_) ?_
                  · have e0 : vs 2 = .pointer (some ⟨w.heap.size, 0, none⟩) := hdep 2 rfl (by kernel_rfl)
                    have y0 := cell_keep hG m0
                    simp only [putsOf, List.foldl_cons, List.foldl_nil, Act.put, List.setIfInBounds_toArray, List.set_cons_zero, List.set_cons_succ] at hK ⊢
                    rw [e0] at hK ⊢
                    go_simp
                    exact hK.out (.slice (some ⟨xb, xo, none⟩) n1 c1) _ _ rfl hG (Below.refl _ _) rfl
                  refine PutSteps.at rfl (fun vs Y hG hdep K hK => ?_) ?_
                  · simp only [putsOf, List.foldl_cons, List.foldl_nil, Act.put, List.setIfInBounds_toArray, List.set_cons_zero, List.set_cons_succ] at hK ⊢
                    go_simp
                    exact hK.out (.int .i64 j) _ _ rfl hG (Below.refl _ _) rfl
                  refine PutSteps.at rfl (fun vs Y hG hdep K hK => ?_) ?_
                  · have e0 : vs 3 = .slice (some ⟨xb, xo, none⟩) n1 c1 := hdep 3 rfl (by kernel_rfl)
                    have e1 : vs 4 = .int .i64 j := hdep 4 rfl (by kernel_rfl)
                    simp only [putsOf, List.foldl_cons, List.foldl_nil, Act.put, List.setIfInBounds_toArray, List.set_cons_zero, List.set_cons_succ] at hK ⊢
                    rw [e0, e1] at hK ⊢
                    go_simp
                    exact hK.out (.pointer (some ⟨xb, xo + j * 2, none⟩)) _ _ rfl hG (Below.refl _ _) rfl
                  refine PutSteps.at rfl (fun vs Y hG hdep K hK => ?_) ?_
                  · have e0 : vs 5 = .pointer (some ⟨xb, xo + j * 2, none⟩) := hdep 5 rfl (by kernel_rfl)
                    have y0 := cell_keep hG t0
                    have y1 := cell_keep hG t1
                    simp only [putsOf, List.foldl_cons, List.foldl_nil, Act.put, List.setIfInBounds_toArray, List.set_cons_zero, List.set_cons_succ] at hK ⊢
                    rw [e0] at hK ⊢
                    go_simp
                    exact hK.out (.agg #[.string nm, .slice xa rl xc]) _ _ rfl hG (Below.refl _ _) rfl
                  refine PutSteps.at rfl (fun vs Y hG hdep K hK => ?_) PutSteps.nil
                  · have e0 : vs 6 = .agg #[.string nm, .slice xa rl xc] := hdep 6 rfl (by kernel_rfl)
                    simp only [putsOf, List.foldl_cons, List.foldl_nil, Act.put, List.setIfInBounds_toArray, List.set_cons_zero, List.set_cons_succ] at hK ⊢
                    rw [e0] at hK ⊢
                    go_simp
                    exact hK.out (.slice (some ⟨Y.heap.size, 0, none⟩) 1 1) _ _ rfl (bel_alloc hG _) (bel_alloc (Below.refl _ _) _) ⟨Y.heap.size, rfl, blkAt_newC _ _ _⟩
                · intro vs Y hG hdep
                  have e1 : vs 1 = .slice ia2 q2 ic2 := hdep 1 rfl
                  obtain ⟨bb, e7, hB7⟩ := show ∃ b, vs 7 = .slice (some ⟨b, 0, none⟩) 1 1 ∧ BlkAt Y b 38 #[.string nm, .slice xa rl xc] from hdep 7 rfl
                  simp only [putsOf, List.foldl_cons, List.foldl_nil, Act.put, List.setIfInBounds_toArray, List.set_cons_zero, List.set_cons_succ]
                  simp only [List.filterMap_cons, List.filterMap_nil, nthO]
                  rw [e1, e7]
                  have hSY := HSR2.out.keep hG
                  refine wpList_step fun K hK => ?_
                  refine step_append_lies Y rfl _ _ _ rfl (nb + 1) 38 i0 _ 2 40 Tryz.underlying29 HI.out HZ0.out HZ1.out HZ2.out rfl (by decide) (.slice ia2 q2 ic2) q2 (rxCells gs2) rfl hSY.2.2.2.2.2.1 ⟨bb, 0, none⟩ 1 1 [.string nm, .slice xa rl xc] rfl rfl (World.news_of_block (fr := (0, 0)) hB7) (by intro u hu; simp only [List.mem_cons, List.not_mem_nil, or_false] at hu; rcases hu with rfl | rfl <;> rfl) (by decide) (by unfold maxLen; omega) (by omega) hSY.2.2.1 Y.heap.size rfl ?_
                  intro gg cp' w6 hown6 hgrow hat hlt
                  refine hK _ _ ?_
                  have hA := RpSt.app (g := ⟨(nm, ru), xa, xc⟩) hSY (Nat.lt_succ_self nb) hws (by
                    have h1 := hown6
                    rw [← HRL.out] at h1
                    exact h1) hgrow ⟨HSZ.out, HRU.out⟩
                  obtain ⟨hA1, hA2⟩ := hA
                  have HA1 := Lib.hid hA1
                  have hin : (gs2 ++ [(⟨(nm, ru), xa, xc⟩ : RX)]).map RX.r ++ insR (repo, us) pb2 (rs.drop (j + 1)) = insR (repo, us) false rs := by
                    rw [List.map_append, List.append_assoc]
                    exact HIN2.out
                  have HIN3 := Lib.hid hin
                  obtain ⟨z0, z1, zf⟩ := b2 hA2
                  clear hown6 hgrow hat hlt hdep hA1 hA2 hin hB7 e1 e7 hSY
                  refine wpList_plain rfl fun K hK => ?_
                  go_simp
                  refine hK _ _ ?_
                  refine wpList_plain rfl fun K hK => ?_
                  go_simp
                  refine hK _ _ ?_
                  refine wpList_nil ?_
                  clear z0 z1 zf
                  generalize w6.setCell ⟨nb, 0, none⟩ (.slice (some ⟨gg, 0, none⟩) (q2 + 1) cp') = w10 at HA1 ⊢
                  go_wp2_with fail
                  exact ⟨⟨j + 1, _, _, _, _, hb2, pb2, by omega, by go_num, rfl, rfl, HHB2', HIN3, HA1⟩, by simp [intOf]; omega⟩
          · obtain rfl : j = n1 := by omega
            have i1' : ¬ (j : Int) < (j : Int) := by omega
            have hin := HIN.out
            rw [List.drop_of_length_le (l := rs) (by rw [HN1.out]; exact Nat.le_refl _)] at hin
            have hhb : hb = hereB repo rs := by
              have := HHB.out
              rwa [List.take_of_length_le (by rw [HN1.out]; exact Nat.le_refl _)] at this
            have HHR := Lib.hid hhb
            have HIE := Lib.hid hin
            clear hin hhb HIN HHB
            go_upto_if 89 with fail
            go_cut [] (fun wx => ∃ (gs2 : List RX) (ia2 : Option Addr) (q2 ic2 : Nat), Hid (gs2.map RX.r = insR (repo, us) false rs) ∧ Hid (RpSt w wx nb (nb + 1) #[.slice a1 j c1, .slice a2 n2 c2] (.slice a2 n2 c2) gs2 ia2 q2 ic2))
            case first =>
              cases pb with
              | true =>
                have h1 : gs.map RX.r = insR (repo, us) false rs := by
                  have := HIE.out
                  rwa [insR, if_pos rfl, List.append_nil] at this
                have H1 := Lib.hid h1
                clear h1
                go_wp2_with fail
                go_meet
                exact ⟨gs, ia, q, ic, H1, HSR⟩
              | false =>
                have hin : (gs ++ [(⟨(repo, us), ua, uc⟩ : RX)]).map RX.r = insR (repo, us) false rs := by
                  have := HIE.out
                  rw [insR, if_neg (by decide)] at this
                  rw [List.map_append]
                  exact this
                have hq9 : q ≤ 9 := by
                  have h1 := congrArg List.length hin
                  rw [List.length_map, List.length_append, HSR.out.1, insR_len, HN1.out] at h1
                  simp only [List.length_cons, List.length_nil] at h1
                  omega
                have HIN2 := Lib.hid hin
                obtain ⟨W9, hW9⟩ : ∃ y, y = wr.alloc (.cells #[.string repo, .slice ua ul uc] 38) := ⟨_, rfl⟩
                have hb9 : Below wr.heap.size wr W9 := by rw [hW9]; exact bel_alloc (Below.refl _ _) _
                have HS9 := Lib.hid (HSR.out.keep hb9)
                have hnc : ∀ j u, ([.string repo, .slice ua ul uc] : List Value)[j]? = some u → W9.cell? ((⟨wr.heap.size, 0, none⟩ : Addr).add j) = some u := fun j u hj => by
                  have hadd : (⟨wr.heap.size, 0, none⟩ : Addr).add j = ⟨wr.heap.size, j, none⟩ := by rw [add_none, Nat.zero_add]
                  rw [hadd, hW9, cell_al_eq _ _ _ _ _ rfl]
                  simpa using hj
                have hone : ∀ u ∈ ([.string repo, .slice ua ul uc] : List Value), u.oneCell' = true := fun u hu => by
                  simp only [List.mem_cons, List.not_mem_nil, or_false] at hu
                  rcases hu with rfl | rfl <;> rfl
                have hm3 : nb + 1 ≤ W9.heap.size := HS9.out.2.2.1
                have hO9 := HS9.out.2.2.2.2.2.1
                have HW9 := Lib.hid hW9
                rw [HW9.out] at hnc hm3 hO9
                have HNC := Lib.hid hnc
                have HONE := Lib.hid hone
                have HM1 : Hid (q + 1 ≤ maxLen) := by show _ ≤ _; unfold maxLen; omega
                have HM2 : Hid ((q + 1) * 40 ≤ 140737488355328) := by show _ ≤ _; omega
                have HM3 := Lib.hid hm3
                have HO9 := Lib.hid hO9
                clear hin hb9 hnc hone hm3 hO9 hW9
                go_wp2_with (at_builtin; refine wpList_append_own_at _ rfl _ _ 29 rfl (nb + 1) 38 i0 (.agg #[.string ⟨#[]⟩, .slice none 0 0]) 2 40 Tryz.underlying29 HI.out HZ0.out HZ1.out HZ2.out rfl (by decide) _ _ _ rfl HO9.out ⟨_, 0, none⟩ 1 1 [.string repo, .slice ua ul uc] rfl rfl HNC.out HONE.out HM1.out HM2.out HM3.out ?_)
                intro v' w9 hown9 hgrow9 _ hat9
                obtain ⟨g9, p9, rfl, hg9, hg9'⟩ := World.ownsRow.form hown9 (by omega)
                rw [← HW9.out] at hgrow9
                have hA := RpSt.app (g := ⟨(repo, us), ua, uc⟩) HS9.out (Nat.lt_succ_self nb) hws (by
                  have h1 := hown9
                  rw [← HUL.out] at h1
                  exact h1) hgrow9 ⟨HRZ.out, by rw [HUL.out]; exact HU.out⟩
                obtain ⟨hA1, hA2⟩ := hA
                have HA1 := Lib.hid hA1
                obtain ⟨z0, z1, zf⟩ := b2 hA2
                clear hown9 hgrow9 hat9 hA1 hA2 HNC HONE HM1 HM2 HM3 HO9 HW9 HS9
                go_wp2_with fail
                go_meet
                exact ⟨_, _, _, _, HIN2, HA1⟩
            case rest =>
              obtain ⟨gs2, ia2, q2, ic2, HG, HSF⟩ := hcut
              clear m0 m1 mf v0 v1 vf HIE HSR
              obtain ⟨m0, m1, mf⟩ := b2 HSF.out.2.2.2.1
              obtain ⟨v0, v1, vf⟩ := b2 HSF.out.2.2.2.2.1
              go_upto_region 16 with fail
              go_cut [13] (fun ov wx => ov = .bool (roleB repo && !hb && decide (j < 8) && decide (ul ≤ 8)) ∧ wc = wx)
              case first =>
                go_wp2_with fail
                refine (role_any repo _).mono ?_
                rintro e wX ⟨rfl, rfl⟩
                obtain ⟨rb, hrb⟩ : ∃ b, roleB repo = b := ⟨_, rfl⟩
                rw [hrb]
                cases rb with
                | false =>
                  go_wp2_with fail
                  go_meet
                  exact ⟨by rw [hrb]; first | rfl | simp, rfl⟩
                | true =>
                  cases hb with
                  | true =>
                    go_wp2_with fail
                    go_meet
                    exact ⟨by rw [hrb]; first | rfl | simp, rfl⟩
                  | false =>
                    by_cases hj8 : j < 8
                    · have g2 : decide ((j : Int) < 8) = true := decide_eq_true (by omega)
                      have g2' : decide (j < 8) = true := decide_eq_true hj8
                      go_wp2_with fail
                      go_meet
                      refine ⟨?_, rfl⟩
                      rw [hrb, g2']
                      by_cases hu8 : ul ≤ 8
                      · rw [decide_eq_true hu8, decide_eq_true (show (ul : Int) ≤ 8 by omega)]; rfl
                      · rw [decide_eq_false hu8, decide_eq_false (show ¬ (ul : Int) ≤ 8 by omega)]; rfl
                    · have g2 : decide ((j : Int) < 8) = false := decide_eq_false (by omega)
                      have g2' : decide (j < 8) = false := decide_eq_false hj8
                      go_wp2_with fail
                      go_meet
                      exact ⟨by rw [hrb, g2']; first | rfl | simp, rfl⟩
              case rest =>
                obtain ⟨rfl, rfl⟩ := hcut
                obtain ⟨ob, hob⟩ : ∃ b, (roleB repo && !hb && decide (j < 8) && decide (ul ≤ 8)) = b := ⟨_, rfl⟩
                rw [hob]
                have HOB := Lib.hid hob
                clear hob
                go_wp2_with fail
                go_loopw [13, 14] (fun ov i wr => ∃ (f : Nat) (o : Bool), f ≤ ul ∧ i = .int .i64 f ∧ ov = .bool o ∧ Hid (o = (ob && (us.take f).all writ)) ∧ Hid (Below wc.heap.size wc wr)) (fun _ i _ => ul - (intOf i).toNat)
                case atStart => exact ⟨0, ob, by omega, rfl, rfl, by show _ = _; simp, Below.refl _ _⟩
                case round =>
                  obtain ⟨f, o, hf, rfl, rfl, HO, HBF⟩ := hrel
                  by_cases hfn : f < ul
                  · obtain ⟨s, hs⟩ : ∃ s, us[f]? = some s := ⟨_, List.getElem?_eq_getElem (by rw [HUL.out]; exact hfn)⟩
                    obtain ⟨sb, so, rfl, y0⟩ := HUC.out f s hs
                    have y0 := cell_keep (below_more HSF.out.2.1 HBF.out) y0
                    have hz := HSU.out s (List.mem_of_getElem? hs)
                    have j0 : (0 : Int) ≤ (f : Int) := by omega
                    have j1 : (f : Int) < (ul : Int) := by omega
                    have hstp : (us.take (f + 1)).all writ = ((us.take f).all writ && writ s) := by
                      rw [List.take_add_one, hs, List.all_append]
                      simp
                    cases o with
                    | false =>
                      have hn : false = (ob && (us.take (f + 1)).all writ) := by
                        rw [hstp, ← Bool.and_assoc, ← HO.out]
                        rfl
                      have HN := Lib.hid hn
                      clear hn hs hstp
                      go_wp2_with fail
                      exact ⟨⟨f + 1, false, by omega, by go_num, rfl, HN, HBF⟩, by simp [intOf]; omega⟩
                    | true =>
                      obtain ⟨wbt, hwbt⟩ : ∃ b, writ s = b := ⟨_, rfl⟩
                      have HT := Lib.hid (fun W => refWrit_any s W (by omega) wbt (Lib.hid hwbt))
                      have hn : wbt = (ob && (us.take (f + 1)).all writ) := by
                        rw [hstp, ← Bool.and_assoc, ← HO.out, hwbt]
                        rfl
                      have HN := Lib.hid hn
                      clear hn hs hstp hwbt
                      go_wp2_with fail
                      refine (HT.out _).mono ?_
                      rintro e wX ⟨rfl, hbX⟩
                      have HBX := Lib.hid (below_more HBF.out hbX)
                      clear hbX
                      go_wp2_with fail
                      exact ⟨⟨f + 1, wbt, by omega, by go_num, rfl, HN, HBX⟩, by simp [intOf]; omega⟩
                  · obtain rfl : f = ul := by omega
                    have j1 : ¬ (f : Int) < (f : Int) := by omega
                    have hall : us.take f = us := List.take_of_length_le (by rw [HUL.out]; exact Nat.le_refl _)
                    have hmo : mayM ⟨insR (repo, us) false rs, M.maps⟩ = o := by
                      have h1 := more_may HMB.out (repo, us)
                      rw [HRS.out] at h1
                      rw [h1, HO.out, hall, ← HOB.out]
                      unfold moreB
                      simp only
                      rw [HN1.out, HUL.out, HHR.out]
                    have hq9 : q2 ≤ 9 := by
                      have h1 := congrArg List.length HG.out
                      rw [List.length_map, HSF.out.1, insR_len, HN1.out] at h1
                      omega
                    have hra := HSF.out.at (by rw [HSF.out.1]; omega)
                    rw [HG.out] at hra
                    have hbW := below_more HSF.out.2.1 HBF.out
                    have hmm : MapAt wr (.agg #[.slice a1 j c1, .slice a2 n2 c2]) M := HMH.out.keep hbW
                    have hmn : MapAt wr (.agg #[.slice ia2 q2 ic2, .slice a2 n2 c2]) ⟨insR (repo, us) false rs, M.maps⟩ := by
                      obtain ⟨b1, d1, b2', d2, e, -, hms⟩ := hmm.parts
                      simp only [Value.agg.injEq, Array.mk.injEq, List.cons.injEq, Value.slice.injEq, and_true] at e
                      obtain ⟨-, rfl, e3, rfl⟩ := e
                      refine ⟨_, _, rfl, hra.keep HBF.out, ?_⟩
                      rw [e3]
                      exact hms
                    have hfn : FewM ⟨insR (repo, us) false rs, M.maps⟩ := by
                      obtain ⟨k1, k2, k3, k4⟩ := HFW.out
                      rw [HRS.out] at k3
                      refine ⟨?_, k2, fun r hr => ?_, k4⟩
                      · show (insR (repo, us) false rs).length ≤ 4000
                        rw [insR_len, HN1.out]; omega
                      · rcases (insR_mem _ rs).1 hr with rfl | hr
                        · show us.length ≤ 4000
                          rw [HUL.out]; exact hus4
                        · exact k3 r hr
                    obtain ⟨F, hF⟩ : ∃ l, forV hitB p M.maps = l := ⟨_, rfl⟩
                    obtain ⟨nF, hnF⟩ : ∃ n, F.length = n := ⟨_, rfl⟩
                    have HMA := Lib.hid (fun Y (hY : Below wr.heap.size wr Y) => cMay_any ⟨insR (repo, us) false rs, M.maps⟩ _ Y (hmn.keep hY))
                    rw [hmo] at HMA
                    have HFB : Hid (∀ Y (a : Value), Below wr.heap.size wr Y → (a = .agg #[.slice ia2 q2 ic2, .slice a2 n2 c2] ∨ a = .agg #[.slice a1 j c1, .slice a2 n2 c2]) → Calls Tryz.prog 15 #[a, .string p] Y fun e w' => Below Y.heap.size Y w' ∧ ∃ b c, e = .returned (.slice b nF c) ∧ MapsAt w' (.slice b nF c) F) := fun Y a hY ha => by
                      rcases ha with rfl | rfl
                      · exact For_at ⟨insR (repo, us) false rs, M.maps⟩ p F hF nF hnF _ Y (hmn.keep hY) HPS.out hfn
                      · exact For_at M p F hF nF hnF _ Y (hmm.keep hY) HPS.out HFW.out
                    have HSM : Hid (∀ (Z1 Z2 Y : World) (b d : Option Addr) (c e : Nat), MapsAt Z1 (.slice b nF c) F → Below Z1.heap.size Z1 Y → MapsAt Z2 (.slice d nF e) F → Below Z2.heap.size Z2 Y → Calls Tryz.prog 19 #[.slice b nF c, .slice d nF e] Y fun e w' => e = .returned (.bool true) ∧ Below Y.heap.size Y w') := fun Z1 Z2 Y b d c e h1 hb1 h2 hb2 => by
                      have h := same25Xs_any F F _ _ Y (h1.keep hb1) (h2.keep hb2)
                      rw [decide_eq_true rfl] at h
                      exact h
                    have HBW := Lib.hid hbW
                    clear m0 m1 mf v0 v1 vf
                    obtain ⟨m0, m1, mf⟩ := b2 (BlkAt.keep HSF.out.2.2.2.1 HBF.out)
                    obtain ⟨v0, v1, vf⟩ := b2 (BlkAt.keep HSF.out.2.2.2.2.1 HBF.out)
                    clear hra hmm hmn hfn hF hnF hmo hall HO HOB HHR HG HSF HAW HFW HMH hbW
                    cases o with
                    | true =>
                      go_wp2_with fail
                      go_region_held3 (fun w' => Below wr.heap.size wr w' ∧ w'.cell? ⟨w.heap.size, 0, none⟩ = some (.slice a1 j c1) ∧ w'.cell? ⟨w.heap.size, 1, none⟩ = some (.slice a2 n2 c2) ∧ w'.cell? ⟨nb, 0, none⟩ = some (.slice ia2 q2 ic2) ∧ w'.cell? ⟨nb, 1, none⟩ = some (.slice a2 n2 c2))
                        ((refine (fun h => ⟨h, cell_keep h m0, cell_keep h m1, cell_keep h v0, cell_keep h v1⟩ : Below wr.heap.size wr _ → _) ?_; go_split_ands; (repeat (first | assumption | exact Below.refl _ _ | refine bel_drew ?_ | refine below_more ?_ (by assumption)))))
                        (first
                          | (go_at_call 13; refine (HMA.out _ (by (repeat (first | refine bel_drew ?_ | exact Below.refl _ _ | assumption | refine below_more ?_ (by assumption))))).mono ?_; rintro e wP ⟨rfl, hbP⟩; have hAP : Below wr.heap.size wr wP := below_more (by (repeat (first | refine bel_drew ?_ | exact Below.refl _ _ | assumption | refine below_more ?_ (by assumption)))) hbP)
                          | (go_at_call 15; refine (HFB.out _ _ (by (repeat (first | refine bel_drew ?_ | exact Below.refl _ _ | assumption | refine below_more ?_ (by assumption)))) (by first | exact Or.inl rfl | exact Or.inr rfl)).mono ?_; rintro e wR ⟨hbR, xa', xc', rfl, hlR⟩; have hAR : Below wr.heap.size wr wR := below_more (by (repeat (first | refine bel_drew ?_ | exact Below.refl _ _ | assumption | refine below_more ?_ (by assumption)))) hbR)
                          | (go_at_call 19; refine (HSM.out _ _ _ _ _ _ _ (by assumption) (by (repeat (first | refine bel_drew ?_ | exact Below.refl _ _ | assumption | refine below_more ?_ (by assumption)))) (by assumption) (by (repeat (first | refine bel_drew ?_ | exact Below.refl _ _ | assumption | refine below_more ?_ (by assumption))))).mono ?_; rintro e wU ⟨rfl, hbU⟩; have hAU : Below wr.heap.size wr wU := below_more (by (repeat (first | refine bel_drew ?_ | exact Below.refl _ _ | assumption | refine below_more ?_ (by assumption)))) hbU))
                      go_wp2_with fail
                      go_ret
                      exact ⟨rfl, below_more HBW.out (by (repeat (first | refine bel_drew ?_ | exact Below.refl _ _ | assumption | refine below_more ?_ (by assumption))))⟩
                    | false =>
                      go_wp2_with fail
                      go_region_held3 (fun w' => Below wr.heap.size wr w' ∧ w'.cell? ⟨w.heap.size, 0, none⟩ = some (.slice a1 j c1) ∧ w'.cell? ⟨w.heap.size, 1, none⟩ = some (.slice a2 n2 c2) ∧ w'.cell? ⟨nb, 0, none⟩ = some (.slice ia2 q2 ic2) ∧ w'.cell? ⟨nb, 1, none⟩ = some (.slice a2 n2 c2))
                        ((refine (fun h => ⟨h, cell_keep h m0, cell_keep h m1, cell_keep h v0, cell_keep h v1⟩ : Below wr.heap.size wr _ → _) ?_; go_split_ands; (repeat (first | assumption | exact Below.refl _ _ | refine bel_drew ?_ | refine below_more ?_ (by assumption)))))
                        (first
                          | (go_at_call 13; refine (HMA.out _ (by (repeat (first | refine bel_drew ?_ | exact Below.refl _ _ | assumption | refine below_more ?_ (by assumption))))).mono ?_; rintro e wP ⟨rfl, hbP⟩; have hAP : Below wr.heap.size wr wP := below_more (by (repeat (first | refine bel_drew ?_ | exact Below.refl _ _ | assumption | refine below_more ?_ (by assumption)))) hbP)
                          | (go_at_call 15; refine (HFB.out _ _ (by (repeat (first | refine bel_drew ?_ | exact Below.refl _ _ | assumption | refine below_more ?_ (by assumption)))) (by first | exact Or.inl rfl | exact Or.inr rfl)).mono ?_; rintro e wR ⟨hbR, xa', xc', rfl, hlR⟩; have hAR : Below wr.heap.size wr wR := below_more (by (repeat (first | refine bel_drew ?_ | exact Below.refl _ _ | assumption | refine below_more ?_ (by assumption)))) hbR)
                          | (go_at_call 19; refine (HSM.out _ _ _ _ _ _ _ (by assumption) (by (repeat (first | refine bel_drew ?_ | exact Below.refl _ _ | assumption | refine below_more ?_ (by assumption)))) (by assumption) (by (repeat (first | refine bel_drew ?_ | exact Below.refl _ _ | assumption | refine below_more ?_ (by assumption))))).mono ?_; rintro e wU ⟨rfl, hbU⟩; have hAU : Below wr.heap.size wr wU := below_more (by (repeat (first | refine bel_drew ?_ | exact Below.refl _ _ | assumption | refine below_more ?_ (by assumption)))) hbU))
                      go_wp2_with fail
                      go_ret
                      exact ⟨rfl, below_more HBW.out (by (repeat (first | refine bel_drew ?_ | exact Below.refl _ _ | assumption | refine below_more ?_ (by assumption))))⟩
end Go.Proofs.YtopepakencpegaaGreatDoor
