/-
  Rows put together by append, whether there is something or not; an empty row of one's own.
  legateref18.First; legateref25.Matches, For: the document's mappings for a path.
-/
import Derived.Test.YtjnakpbobeeclaaGreatDoorValA
import Derived.Deep.AppendLies
import Derived.OwnWalk
import Derived.Test.YtjnakpbobeeclaaGreatDoorGlobR2
import Derived.Test.YtjnakpbobeeclaaGreatDoorChartLm
namespace Go.Proofs.YtjnakpbobeeclaaGreatDoor
section
open Go.RowKit
/-! Rows put together. -/
section
variable {P : Program} (w : World)
theorem run_append_anyC (base : Nat) (t ty e : TypeId) (i : TypeInfo) (z : Value) (size bytes : Nat) (ht : P.underlying t = some (.slice e)) (hi : P.info? e = some i) (hz : i.zero = some z)
   (hsize : i.size = size) (hby : i.bytes = bytes) (hzs : z.cells.size = size) (hsz : 0 < size)
   (v : Value) (n : Nat) (xs : List Value) (hown : w.ownsRow base e size v n xs)
   (x : Option Addr) (m c : Nat) (news : List Value) (hl : news.length = m * size) (hnews : ∀ j u, news[j]? = some u → ∃ ad, x = some ad ∧ w.cell? (ad.add j) = some u) (h1 : ∀ u ∈ news, u.oneCell' = true)
   (h63 : n + m ≤ maxLen) (hbytes : (n + m) * bytes ≤ 140737488355328) (hbase : base ≤ w.heap.size) :
   ∃ v' w', (Builtin.append_ #[t, t] ty #[v, .slice x m c]).run P w = .ok v' w' ∧ w'.ownsRow base e size v' (n + m) (xs ++ news) ∧ w.grownBy w' v.ownBlock ∧ (v'.ownBlock = v.ownBlock ∨ v'.ownBlock = some w.heap.size) := by
 cases x with
 | some ad =>
   obtain ⟨v', w', h2, h3, h4, -, h5⟩ := run_append_own_at (P := P) w base t ty e i z size bytes ht hi hz hsize hby hzs hsz v n xs hown ad m c news hl (fun j u hu => by obtain ⟨a, ha, hc⟩ := hnews j u hu; cases ha; exact hc) h1 h63 hbytes hbase
   exact ⟨v', w', h2, h3, h4, h5⟩
 | none =>
   have hn : news = [] := by
     cases news with
     | nil => rfl
     | cons u r => obtain ⟨a, ha, -⟩ := hnews 0 u rfl; cases ha
   subst hn
   have hm : m = 0 := by
     rcases Nat.eq_zero_or_pos m with h | h
     · exact h
     · have := Nat.mul_pos h hsz
       simp at hl
       omega
   subst hm
   subst hsize
   refine ⟨v, w, ?_, by rw [List.append_nil]; exact hown, ⟨rfl, rfl, rfl, Nat.le_refl _, fun _ _ _ => rfl⟩, .inl rfl⟩
   rcases hown.2 with ⟨rfl, rfl⟩ | ⟨g, cap, cur, rfl, hbg, hg, hnc, hcm, hcs, htake⟩
   · simp [Builtin.append_, run_underlying ht, sizeOf, typeInfo, hi, Builtin.lenOf, Builtin.firstCells]
   · simp [Builtin.append_, run_underlying ht, sizeOf, typeInfo, hi, Builtin.lenOf, Builtin.firstCells, hnc, storeCells]
theorem step_append_anyC {ops : Array Oper} {o : Oper} {a : Act} {K : Act → World → Prop} {Q : Exit → Act → World → Prop} {E : Prop} (hgd : o.guard = none) (s y : Operand) (t : TypeId)
   (ho : o.op = .call { callee := .builtin .append, args := #[s, y], argTypes := #[t, t] })
   (base : Nat) (e : TypeId) (i : TypeInfo) (z : Value) (size bytes : Nat) (ht : P.underlying t = some (.slice e)) (hi : P.info? e = some i) (hz : i.zero = some z)
   (hsize : i.size = size) (hby : i.bytes = bytes) (hzs : z.cells.size = size) (hsz : 0 < size)
   (v : Value) (n : Nat) (xs : List Value) (hs : a.eval s = v) (hown : w.ownsRow base e size v n xs)
   (x : Option Addr) (m c : Nat) (news : List Value) (hx : a.eval y = .slice x m c) (hl : news.length = m * size) (hnews : ∀ j u, news[j]? = some u → ∃ ad, x = some ad ∧ w.cell? (ad.add j) = some u) (h1 : ∀ u ∈ news, u.oneCell' = true)
   (h63 : n + m ≤ maxLen) (hbytes : (n + m) * bytes ≤ 140737488355328) (hbase : base ≤ w.heap.size)
   (h : ∀ v' w', w'.ownsRow base e size v' (n + m) (xs ++ news) → w.grownBy w' v.ownBlock → (v'.ownBlock = v.ownBlock ∨ v'.ownBlock = some w.heap.size) → K (a.put o.dst v') w') :
   if Region.wanted o (yielded ops a.tmps) = true then Oper.wp P o a w K Q else E := by
 have hw : Region.wanted o (yielded ops a.tmps) = true := by simp [Region.wanted, hgd]
 rw [if_pos hw]
 obtain ⟨v', w', hr, h2, h3, h4⟩ := run_append_anyC (P := P) w base t o.type e i z size bytes ht hi hz hsize hby hzs hsz v n xs hown x m c news hl hnews h1 h63 hbytes hbase
 unfold Oper.wp execOp
 simp only [ho, resolve, invoke, builtin, Sem.run_bind, Sem.run_pure, Result.andThen_ok, List.map_toArray, List.map_cons, List.map_nil, hs, hx, hr]
 exact h v' w' h2 h3 h4
end
theorem own_empty (w : World) (B : Nat) (T : TypeId) (hB : B ≤ w.heap.size) : (w.alloc (.cells #[] T)).ownsRow B T 4 (.slice (some ⟨w.heap.size, 0, none⟩) 0 0) 0 [] := by
 refine ⟨rfl, Or.inr ⟨w.heap.size, 0, #[], rfl, hB, ?_, Nat.le_refl _, Nat.zero_le _, rfl, rfl⟩⟩
 show (w.heap.push _)[w.heap.size]? = _
 simp
end

section
set_option maxRecDepth 100000
open Go.RowKit
set_option maxHeartbeats 4000000 in
theorem first18_any (l : List ByteArray) (p : ByteArray) (v : Value) (w : World) (h : StrsAt w v l) :
   Calls Tryz.prog 49 #[v, .string p] w fun e w' => (∃ k : Int, e = .returned (.tuple #[.int .i64 k, .bool (anyH hitB l p)])) ∧ Below w.heap.size w w' := by
 obtain ⟨a, cap, rfl, hl, hm, hc⟩ := h.parts
 obtain ⟨n, hn⟩ : ∃ n, l.length = n := ⟨_, rfl⟩
 obtain ⟨r, hr⟩ : ∃ r, anyH hitB l p = r := ⟨_, rfl⟩
 rw [hn] at hl ⊢
 rw [hr]
 unfold anyH at hr
 have HR := Lib.hid hr
 have HC := Lib.hid hc
 have HN := Lib.hid hn
 clear h hc hm hn hr
 go_enter Tryz.func49, Tryz.ntmps49
 go_wp2_with fail
 go_loopw [6] (fun i wr => ∃ k : Nat, k ≤ n ∧ i = .int .i64 k ∧ Hid ((l.take k).any (fun a => hitB a p) = false) ∧ Hid (Below w.heap.size w wr)) (fun i _ => n - (intOf i).toNat)
 case atStart => exact ⟨0, by omega, rfl, by show _ = _; simp, Below.refl _ _⟩
 case round =>
   obtain ⟨k, hk, rfl, HA, HB⟩ := hrel
   by_cases hlt : k < n
   · obtain ⟨s, hs⟩ : ∃ s, l[k]? = some s := ⟨_, List.getElem?_eq_getElem (by rw [HN.out]; exact hlt)⟩
     obtain ⟨b, o, rfl, hcs⟩ := HC.out k s hs
     have hcs2 := cell_keep HB.out hcs
     have HP := Lib.hid (fun W => match18_any s p W)
     have j0 : (0 : Int) ≤ (k : Int) := by omega
     have j1 : (k : Int) < (n : Int) := by omega
     cases hh : hitB s p with
     | false =>
       have HA2 := Lib.hid (any_step hs HA.out hh)
       rw [hh] at HP
       clear hs hcs hh HA
       go_wp2_with fail
       refine (HP.out _).mono ?_
       rintro e w2 ⟨rfl, hb⟩
       have HB2 := Lib.hid (below_more HB.out hb)
       clear hb
       go_wp2_with fail
       exact ⟨⟨k + 1, by omega, by go_num, HA2, HB2⟩, by simp [intOf]; omega⟩
     | true =>
       obtain rfl : true = r := by
         rw [← HR.out, Eq.comm, List.any_eq_true]
         exact ⟨s, List.mem_of_getElem? hs, hh⟩
       rw [hh] at HP
       clear hs hcs hh HA
       go_wp2_with fail
       refine (HP.out _).mono ?_
       rintro e w2 ⟨rfl, hb⟩
       have HB2 := Lib.hid (below_more HB.out hb)
       clear hb
       go_wp2_with fail
       go_ret2
       exact ⟨⟨_, rfl⟩, HB2.out⟩
   · have hall := HA.out
     rw [List.take_of_length_le (by rw [HN.out]; omega), HR.out] at hall
     subst hall
     have j1 : ¬ (k : Int) < (n : Int) := by omega
     clear HA
     go_wp2_with fail
     go_ret2
     exact ⟨⟨_, rfl⟩, HB.out⟩
set_option maxHeartbeats 2000000 in
theorem matches25_any (x : MapgP) (p : ByteArray) (a1 a2 : Option Addr) (n1 c1 n2 c2 : Nat) (w : World) (h : StrsAt w (.slice a1 n1 c1) x.paths) :
   Calls Tryz.prog 17 #[.agg #[.slice a1 n1 c1, .slice a2 n2 c2, .bool x.term, .int .i64 x.thr], .string p] w fun e w' => e = .returned (.bool (anyH hitB x.paths p)) ∧ Below w.heap.size w w' := by
 have hb1 : Below w.heap.size w (w.alloc (.cells #[.slice a1 n1 c1, .slice a2 n2 c2, .bool x.term, .int .i64 x.thr] 39)) := bel_alloc (Below.refl _ _) _
 have HF := Lib.hid (first18_any x.paths p (.slice a1 n1 c1) _ (h.keep hb1))
 have HB1 := Lib.hid hb1
 clear h hb1
 go_enter Tryz.func17, Tryz.ntmps17
 go_wp2_with fail
 refine HF.out.mono ?_
 rintro e w2 ⟨⟨k, rfl⟩, hb⟩
 have HB := Lib.hid (below_more HB1.out hb)
 clear hb
 go_wp2_with fail
 go_ret
 exact ⟨rfl, HB.out⟩
theorem for25_end {w W2 : World} {B vn vc nF : Nat} {va : Option Addr} {hs : List GX} {F : List MapgP} (hl : hs.length = vn) (hn : F.length = nF) (h : W2.ownsRow B 39 4 (.slice va vn vc) vn (gxCells hs)) (hg : ∀ g ∈ hs, GxAt w g) (hb : Below w.heap.size w W2) (hf : hs.map GX.x = F) (h4 : vn ≤ 4000) : ∃ a c, Ending.returned (.slice va vn vc) = .returned (.slice a nF c) ∧ MapsAt W2 (.slice a nF c) F := by
 obtain ⟨a, c, e, hm⟩ := mapsAt_own hl h hg hb (by omega)
 have hnf : vn = nF := by rw [← hn, ← hf, List.length_map, hl]
 subst hnf
 rw [hf] at hm
 exact ⟨va, vc, rfl, hm⟩
set_option maxHeartbeats 16000000 in
theorem for25_any (M : MapP) (p : ByteArray) (F : List MapgP) (hF : forV hitB p M.maps = F) (nF : Nat) (hnF : F.length = nF) (v : Value) (w : World) (h : MapAt w v M) (hl : M.maps.length ≤ 4000) :
   Calls Tryz.prog 20 #[v, .string p] w fun e w' => Below w.heap.size w w' ∧ ∃ a c, e = .returned (.slice a nF c) ∧ MapsAt w' (.slice a nF c) F := by
 obtain ⟨a1, c1, a2, c2, rfl, -, hm⟩ := h.parts
 obtain ⟨gs, hgs, hga, hgc⟩ := hm.gx
 obtain ⟨xa, xc, e0, -, hc⟩ := hm.at
 simp only [Value.slice.injEq, true_and] at e0
 obtain ⟨rfl, rfl⟩ := e0
 obtain ⟨rn, hrn⟩ : ∃ n, M.repos.length = n := ⟨_, rfl⟩
 obtain ⟨l, hlm⟩ : ∃ l, M.maps = l := ⟨_, rfl⟩
 rw [hlm] at hc hl hgs hF ⊢
 rw [hrn]
 obtain ⟨n, hn⟩ : ∃ n, l.length = n := ⟨_, rfl⟩
 rw [hn] at hl ⊢
 obtain ⟨W, hW⟩ : ∃ W, W = w.alloc (.cells #[.slice a1 rn c1, .slice a2 n c2] 25) := ⟨_, rfl⟩
 have hBW : Below w.heap.size w W := by rw [hW]; exact bel_alloc (Below.refl _ _) _
 have hKW : BlkAt W w.heap.size 25 #[.slice a1 rn c1, .slice a2 n c2] := by rw [hW]; exact blkAt_new w _ _
 obtain ⟨wbk, hwb⟩ : ∃ b, w.heap.size = b := ⟨_, rfl⟩
 rw [hwb] at hKW
 obtain ⟨i0, hi, hz0, hz1, hz2⟩ := info_parts infoMapg
 have HI := Lib.hid hi
 have HZ0 := Lib.hid hz0
 have HZ1 := Lib.hid hz1
 have HZ2 := Lib.hid hz2
 have HC := Lib.hid hc
 have HN := Lib.hid hn
 have HFF := Lib.hid hF
 have HNF := Lib.hid hnF
 have HGS := Lib.hid hgs
 have HGA := Lib.hid hga
 have HGC := Lib.hid hgc
 have HBW := Lib.hid hBW
 have HKW := Lib.hid hKW
 have HW := Lib.hid hW
 have HWB := Lib.hid hwb
 clear h hm hc hn hF hnF hrn hlm hBW hKW hW hi hz0 hz1 hz2 hgs hga hgc hwb
 go_enter Tryz.func20, Tryz.ntmps20
 go_wp2_with fail
 rw [← HW.out, HWB.out]
 go_loopw [5, 6] (fun vl i wr => ∃ (j : Nat) (hs : List GX) (va : Option Addr) (vn vc : Nat), j ≤ n ∧ i = .int .i64 j ∧ vl = .slice va vn vc ∧ Hid (hs.length = vn ∧ vn ≤ j) ∧ Hid (wr.ownsRow W.heap.size 39 4 (.slice va vn vc) vn (gxCells hs)) ∧ Hid (∀ g ∈ hs, GxAt w g) ∧ Hid (hs.map GX.x ++ forV hitB p (l.drop j) = F) ∧ Hid (Below W.heap.size W wr)) (fun _ i _ => n - (intOf i).toNat)
 case atStart => exact ⟨0, [], none, 0, 0, by omega, rfl, rfl, ⟨rfl, Nat.le_refl _⟩, World.ownsRow_nil _ _ _ _, (by intro g hg; cases hg), (by show _ = _; rw [List.map_nil, List.nil_append, List.drop_zero]; exact HFF.out), Below.refl _ _⟩
 case round =>
   obtain ⟨j, hs, va, vn, vc, hj, rfl, rfl, HV, HO, HK, HF, HB⟩ := hrel
   obtain ⟨m0, m1, mf⟩ := b2 (BlkAt.keep HKW.out HB.out)
   by_cases hjl : j < n
   · obtain ⟨x, hxj⟩ : ∃ x, l[j]? = some x := ⟨_, List.getElem?_eq_getElem (by rw [HN.out]; exact hjl)⟩
     obtain ⟨g, hg⟩ : ∃ g, gs[j]? = some g := ⟨_, List.getElem?_eq_getElem (by rw [← List.length_map (f := GX.x), HGS.out, HN.out]; exact hjl)⟩
     obtain rfl : g.x = x := by
       have h1 := hxj
       rw [← HGS.out, List.getElem?_map, hg] at h1
       exact Option.some.inj h1
     have hgx := HGA.out g (List.mem_of_getElem? hg)
     have hBwr := below_more HBW.out HB.out
     obtain ⟨b, o, ea, q0⟩ := HGC.out (j * 4 + 0) (.slice g.a1 g.x.paths.length g.c1) (by rw [gxCells_get gs j g hg 0 (by omega)]; rfl)
     obtain ⟨b', o', eb, q1⟩ := HGC.out (j * 4 + 1) (.slice g.a2 g.x.repos.length g.c2) (by rw [gxCells_get gs j g hg 1 (by omega)]; rfl)
     rw [ea] at eb
     simp only [Option.some.injEq, Addr.mk.injEq, and_true] at eb
     obtain ⟨rfl, rfl⟩ := eb
     obtain ⟨b', o', eb, q2⟩ := HGC.out (j * 4 + 2) (.bool g.x.term) (by rw [gxCells_get gs j g hg 2 (by omega)]; rfl)
     rw [ea] at eb
     simp only [Option.some.injEq, Addr.mk.injEq, and_true] at eb
     obtain ⟨rfl, rfl⟩ := eb
     obtain ⟨b', o', eb, q3⟩ := HGC.out (j * 4 + 3) (.int .i64 g.x.thr) (by rw [gxCells_get gs j g hg 3 (by omega)]; rfl)
     rw [ea] at eb
     simp only [Option.some.injEq, Addr.mk.injEq, and_true] at eb
     obtain ⟨rfl, rfl⟩ := eb
     subst ea
     have q1 : w.cell? ⟨b, o + j * 4 + 1, none⟩ = _ := q1
     have q2 : w.cell? ⟨b, o + j * 4 + 2, none⟩ = _ := q2
     have q3 : w.cell? ⟨b, o + j * 4 + 3, none⟩ = _ := q3
     rw [Nat.add_zero] at q0
     have hst := forV_step (hit := hitB) (p := p) hxj
     have hj0 : (0 : Int) ≤ (j : Int) := by omega
     have hj1 : (j : Int) < (n : Int) := by omega
     have HGX := Lib.hid hgx
     obtain ⟨⟨xp, xr, xt, xh⟩, ga1, gc1, ga2, gc2⟩ := g
     simp only at q0 q1 q2 q3 hst
     obtain ⟨n1, hn1⟩ : ∃ n, xp.length = n := ⟨_, rfl⟩
     obtain ⟨n2, hn2⟩ : ∃ n, xr.length = n := ⟨_, rfl⟩
     rw [hn1] at q0
     rw [hn2] at q1
     have hs1 : StrsAt w (.slice ga1 n1 gc1) xp := by rw [← hn1]; exact hgx.1
     have hM : ∀ Y, Below w.heap.size w Y → _ := fun Y hY => matches25_any ⟨xp, xr, xt, xh⟩ p ga1 ga2 n1 gc1 n2 gc2 Y (hs1.keep hY)
     simp only at hM
     have hcn : ∀ (Y : World), ∀ j u, [Value.slice ga1 n1 gc1, .slice ga2 n2 gc2, .bool xt, .int .i64 xh][j]? = some u → (Y.alloc (.cells #[.slice ga1 n1 gc1, .slice ga2 n2 gc2, .bool xt, .int .i64 xh] 39)).cell? ((⟨Y.heap.size, 0, none⟩ : Addr).add j) = some u := fun Y j u hj => by
       have hadd : (⟨Y.heap.size, 0, none⟩ : Addr).add j = ⟨Y.heap.size, j, none⟩ := by unfold Addr.add; split <;> simp_all
       rw [hadd, cell_al_eq _ _ _ _ _ rfl]
       simpa using hj
     have HCN := Lib.hid hcn
     have HGCE : Hid (gxCells [(⟨⟨xp, xr, xt, xh⟩, ga1, gc1, ga2, gc2⟩ : GX)] = [.slice ga1 n1 gc1, .slice ga2 n2 gc2, .bool xt, .int .i64 xh]) := by
       show [Value.slice ga1 xp.length gc1, .slice ga2 xr.length gc2, .bool xt, .int .i64 xh] ++ [] = _
       rw [hn1, hn2]
       rfl
     have HBwr := Lib.hid hBwr
     have HST := Lib.hid hst
     have HQ := Lib.hid (fun Y (hY : Below w.heap.size w Y) => (⟨cell_keep hY q0, cell_keep hY q1, cell_keep hY q2, cell_keep hY q3⟩ : Y.cell? ⟨b, o + j * 4, none⟩ = some (.slice ga1 n1 gc1) ∧ Y.cell? ⟨b, o + j * 4 + 1, none⟩ = some (.slice ga2 n2 gc2) ∧ Y.cell? ⟨b, o + j * 4 + 2, none⟩ = some (.bool xt) ∧ Y.cell? ⟨b, o + j * 4 + 3, none⟩ = some (.int .i64 xh)))
     clear q0 q1 q2 q3
     obtain ⟨q0, q1, q2, q3⟩ := HQ.out _ hBwr
     clear hn1 hn2 hs1 hcn hBwr hst hgx hg hxj
     cases hh : anyH hitB xp p with
     | false =>
       rw [hh] at hM
       have HM := Lib.hid hM
       have hst := HST.out
       rw [hh, if_neg (by decide)] at hst
       have HF2 : Hid (hs.map GX.x ++ forV hitB p (l.drop (j + 1)) = F) := by rw [← hst]; exact HF.out
       clear hM hst hh HF HST
       go_wp2_with fail
       refine (HM.out _ HBwr.out).mono ?_
       rintro e w2 ⟨rfl, hb2⟩
       have HB2 := Lib.hid (below_more HB.out hb2)
       have HO2 := Lib.hid (ownsRow_keep HO.out hb2)
       clear hb2
       go_wp2_with fail
       exact ⟨⟨j + 1, hs, va, vn, vc, by omega, by go_num, rfl, ⟨HV.out.1, by have := HV.out.2; omega⟩, HO2, HK, HF2, HB2⟩, by simp [intOf]; omega⟩
     | true =>
       rw [hh] at hM
       have HM := Lib.hid hM
       have hst := HST.out
       rw [hh, if_pos rfl] at hst
       have HSTT := Lib.hid hst
       clear hM hst hh HST
       go_wp2_with fail
       refine (HM.out _ HBwr.out).mono ?_
       rintro e w2 ⟨rfl, hb2⟩
       have hB2 := below_more HB.out hb2
       have m0 := cell_keep hb2 m0
       have m1 := cell_keep hb2 m1
       obtain ⟨q0, q1, q2, q3⟩ := HQ.out _ (below_more HBwr.out hb2)
       have hvj : vn ≤ 4000 := by have := HV.out; omega
       have hm1 : vn + 1 ≤ maxLen := by unfold maxLen; omega
       have hm2 : (vn + 1) * 64 ≤ 140737488355328 := by omega
       have hm3 : W.heap.size ≤ (w2.alloc (.cells #[.slice ga1 n1 gc1, .slice ga2 n2 gc2, .bool xt, .int .i64 xh] 39)).heap.size := by rw [size_al]; have := hB2.size; omega
       have ho2 := World.ownsRow.alloc (ownsRow_keep HO.out hb2) (.cells #[.slice ga1 n1 gc1, .slice ga2 n2 gc2, .bool xt, .int .i64 xh] 39)
       have hone : ∀ u ∈ [Value.slice ga1 n1 gc1, .slice ga2 n2 gc2, .bool xt, .int .i64 xh], u.oneCell' = true := fun u hu => by
         simp only [List.mem_cons, List.not_mem_nil, or_false] at hu
         rcases hu with rfl | rfl | rfl | rfl <;> rfl
       have HM1 := Lib.hid hm1
       have HM2 := Lib.hid hm2
       have HM3 := Lib.hid hm3
       have HO2 := Lib.hid ho2
       have HONE := Lib.hid hone
       have HBQ := Lib.hid hB2
       have HVJ := Lib.hid hvj
       clear hb2 hB2 hm1 hm2 hm3 ho2 hone hvj
       go_wp2_with (at_builtin; refine wpList_append_own_at _ rfl _ _ 23 rfl W.heap.size 39 i0 (.agg #[.slice none 0 0, .slice none 0 0, .bool false, .int .i64 0]) 4 64 Tryz.underlying23 HI.out HZ0.out HZ1.out HZ2.out rfl (by decide) _ _ _ rfl HO2.out ⟨_, 0, none⟩ 1 1 [.slice ga1 n1 gc1, .slice ga2 n2 gc2, .bool xt, .int .i64 xh] rfl rfl (HCN.out _) HONE.out HM1.out HM2.out HM3.out ?_)
       intro v' w9 hown9 hgrow9 _ hat9
       obtain ⟨g9, p9, rfl, hg9, hg9'⟩ := World.ownsRow.form hown9 (by omega)
       have hown : ∀ k, (Value.slice va vn vc).ownBlock = some k → W.heap.size ≤ k := fun k hk => (World.ownsRow.lt HO.out k hk).1
       have hA9 : Below w2.heap.size w2 (w2.alloc (.cells #[.slice ga1 n1 gc1, .slice ga2 n2 gc2, .bool xt, .int .i64 xh] 39)) := bel_alloc (Below.refl _ _) _
       have hb9 : Below W.heap.size W w9 := (below_more HBQ.out hA9).grown hgrow9 (by rw [size_al]; have := HBQ.out.size; omega) hown
       have hbw9 : Below w.heap.size w w9 := below_more HBW.out hb9
       have HO9 : Hid (w9.ownsRow W.heap.size 39 4 (.slice (some ⟨g9, 0, none⟩) (vn + 1) p9) (vn + 1) (gxCells (hs ++ [(⟨⟨xp, xr, xt, xh⟩, ga1, gc1, ga2, gc2⟩ : GX)]))) := by
         show World.ownsRow _ _ _ _ _ _ _
         rw [gxCells_app, HGCE.out]
         exact hown9
       have HK9 : Hid (∀ g ∈ hs ++ [(⟨⟨xp, xr, xt, xh⟩, ga1, gc1, ga2, gc2⟩ : GX)], GxAt w g) := fun g hg => by
         rcases List.mem_append.1 hg with hg | hg
         · exact HK.out g hg
         · rw [List.mem_singleton.1 hg]; exact HGX.out
       have HV9 : Hid ((hs ++ [(⟨⟨xp, xr, xt, xh⟩, ga1, gc1, ga2, gc2⟩ : GX)]).length = vn + 1 ∧ vn + 1 ≤ j + 1) := ⟨by rw [List.length_append, HV.out.1]; rfl, by have := HV.out.2; omega⟩
       obtain ⟨m0, m1, mf⟩ := b2 (BlkAt.keep HKW.out hb9)
       obtain ⟨q0, q1, q2, q3⟩ := HQ.out _ hbw9
       have HB9 := Lib.hid hb9
       have HBW9 := Lib.hid hbw9
       clear hown9 hgrow9 hat9 hown hA9 hb9 hbw9 hg9 hg9' HO2 HO HONE HM1 HM2 HM3 HCN HBQ
       cases xt with
       | true =>
         have HF9 : Hid ((hs ++ [(⟨⟨xp, xr, true, xh⟩, ga1, gc1, ga2, gc2⟩ : GX)]).map GX.x = F) := by
           have h1 := HF.out
           rw [HSTT.out, if_pos rfl] at h1
           show _ = _
           rw [List.map_append]
           exact h1
         clear HF HSTT
         go_wp2_with fail
         go_ret
         exact ⟨HBW9.out, for25_end HV9.out.1 HNF.out HO9.out HK9.out HBW9.out HF9.out (by have := HV9.out.2; omega)⟩
       | false =>
         have HF9 : Hid ((hs ++ [(⟨⟨xp, xr, false, xh⟩, ga1, gc1, ga2, gc2⟩ : GX)]).map GX.x ++ forV hitB p (l.drop (j + 1)) = F) := by
           have h1 := HF.out
           rw [HSTT.out, if_neg (by decide)] at h1
           show _ = _
           rw [List.map_append, List.append_assoc]
           exact h1
         clear HF HSTT
         go_wp2_with fail
         exact ⟨⟨j + 1, _, some ⟨g9, 0, none⟩, vn + 1, p9, by omega, by go_num, rfl, HV9, HO9, HK9, HF9, HB9⟩, by simp [intOf]; omega⟩
   · obtain rfl : j = n := by omega
     have hf := HF.out
     rw [List.drop_eq_nil_of_le (by rw [HN.out]; exact Nat.le_refl _), forV, List.append_nil] at hf
     have HFE := Lib.hid hf
     have hj1 : ¬ (j : Int) < (j : Int) := by omega
     have HBE := Lib.hid (below_more HBW.out HB.out)
     clear hf HF
     go_wp2_with fail
     go_ret
     exact ⟨HBE.out, for25_end HV.out.1 HNF.out HO.out HK.out HBE.out HFE.out (by have := HV.out.2; omega)⟩
end
end Go.Proofs.YtjnakpbobeeclaaGreatDoor
