/-
  read.values.member, over the contract of read.values.value; the names that an object has already. Members that have been read: a row of the call's own.
  read.values.object, over the contracts of read.values.value and of read.sorted.
-/
import Derived.Test.YtaloajeldimpnaaGreatDoorReadList
import Derived.Maps.OwnOps
import Derived.Maps.Views
import Derived.StringKeys
import Derived.Test.YtaloajeldimpnaaGreatDoorReadP
namespace Go.Proofs.YtaloajeldimpnaaGreatDoor
section
set_option maxRecDepth 100000
section
open Go.RowKit Go.WideMaps Go.Maps
def SeenAt (w:World) (b n:Nat) (acc:List Mem):Prop:=∃ D:DataW Unit,w.ownsMap Tryz.prog 9 (plainElem Tryz.prog 3) b n D ∧ IsMap D ∧ ∀ key:List UInt8,D.atKey (.string key) (.lit (.int .i64 0)) = .lit (.int .i64 (if acc.any (fun x => x.1.data.toList == key) = true then 1 else 0))
theorem seenLaw:Keyed Tryz.prog 9:=string_keyed Tryz.underlying9
theorem SeenAt.kept {w w':World} {b n:Nat} {acc:List Mem} {row:Option Nat} (h:SeenAt w b n acc) (hg:w.grownBy w' row) (hne:some b ≠ row):SeenAt w' b n acc:=by
 obtain ⟨D,h1,h2⟩:=h
 exact ⟨D,h1.kept hg hne,h2⟩
theorem SeenAt.alloc {w:World} {b n:Nat} {acc:List Mem} (h:SeenAt w b n acc) (o:Obj):SeenAt (w.alloc o) b n acc:=by
 obtain ⟨D,h1,h2⟩:=h
 exact ⟨D,h1.alloc o,h2⟩
theorem seenZero (w:World):(zeroValue 3).run Tryz.prog w = .ok (.int .i64 0) w:=by kernel_rfl
theorem SeenAt.look {w:World} {b n:Nat} {acc:List Mem} (h:SeenAt w b n acc) {s:ByteArray} (hs:s.size ≤ maxLen):(Instr.lookup 103 (.map (some b)) (.string s) false).run Tryz.prog w = .ok (.int .i64 (if hasN acc s = true then 1 else 0)) w:=by
 obtain ⟨D,h1,h2,h3⟩:=h
 obtain ⟨c,hrun,hat,-⟩:=h1.lookup_int seenLaw Tryz.underlying103 Tryz.underlying3 (seenZero w) (keyOf_string_mk Tryz.underlying9 hs)
 rw [h3] at hat
 simp only [DataW.lit.injEq,Lit.int.injEq,true_and] at hat
 rw [hrun,← hat]
 rfl
def memP (val:Mk → List Lx → Nat → PR JV) (m:Mk) (ms:List Lx) (c:Nat) (acc:List Mem):PR Mem :=
 if m.k ≠ 10 then .bad m.a (wrongE m 3) else if hasN acc m.name = true then .bad m.a 7
 else match expQ 6 ms with
  | .bad p e => .bad p e
  | .fin _ r => nextL (fun m3 ms3 => match val m3 ms3 c with | .bad p e => .bad p e | .ok v ms c => .ok (m.name,v) ms c) r
  | .go _ _ => .bad 0 0
theorem membersP_step (val:Mk → List Lx → Nat → PR JV) (f:Nat) (m:Mk) (ms:List Lx) (c:Nat) (acc:List Mem):membersP val (f + 1) m ms c acc =
 match memP val m ms c acc with
 | .bad p e => .bad p e
 | .ok x ms c => moreP 2 (fun r => .ok (objV (acc ++ [x])) r c) (fun m r => membersP val f m r c (acc ++ [x])) ms:=by
 rw [membersP,memP]
 by_cases h1:m.k ≠ 10
 ·rw [if_pos h1,if_pos h1]
 rw [if_neg h1,if_neg h1]
 by_cases h2:hasN acc m.name = true
 ·rw [if_pos h2,if_pos h2]
 rw [if_neg h2,if_neg h2]
 match ms with
 | [] => rfl
 | .err p e :: tl => rfl
 | .tok m2 :: r2 =>
   simp only [nextL,expQ]
   by_cases h3:m2.k = 6
   ·rw [if_neg (by simpa using h3),if_pos h3]
    match r2 with
    | [] => rfl
    | .err p e :: tl => rfl
    | .tok m3 :: r3 =>
      simp only
      cases val m3 r3 c <;> rfl
   ·rw [if_pos h3,if_neg h3]
def zeroM:Value:=.agg #[.string ⟨#[]⟩,.int .u8 0,.int .i64 0,.string ⟨#[]⟩,.slice none 0 0,.slice none 0 0]
def VC.mem (s:ByteArray) (x:VC):Value:=.agg #[.string s,.int .u8 x.k,.int .i64 x.n,.string x.t,.slice x.a x.l x.c,.slice x.b x.m x.e]
def zeroMs:Array Value:=#[.string ⟨#[]⟩,.int .u8 0,.int .i64 0,.string ⟨#[]⟩,.slice none 0 0,.slice none 0 0]
def KPost (R:PR Mem) (s:ByteArray) (r:Nat) (d:Int) (w:World) (e:Ending) (w':World):Prop :=
 w.grownBy w' (some r) ∧ match R with
  | .bad p er => e = .returned (.tuple #[zeroM,.int .i64 er]) ∧ StBad w' r s p ∧ er ≠ 0
  | .ok V ms c => ∃ (x:VC) (m:Mk),e = .returned (.tuple #[x.mem V.1,.int .i64 0]) ∧ NewV w.heap.size w' V.2 x.val ∧ V.1.size ≤ 4096 ∧ StAt w' r s m ms c d ∧ m.k ≠ 11
theorem mname_size {m:Mk} (h:MkB m):m.name.size ≤ 4096:=h.2.2
theorem StAt.tname {w:World} {r:Nat} {s:ByteArray} {m:Mk} {ms:List Lx} {c d:Int} (h:StAt w r s m ms c d):w.cell? ⟨r,6,none⟩ = some (.string m.name):=h.1.cells.2.2.2.2.2.2.1
theorem blk6 {w:World} {b:Nat} {T:TypeId} {v0 v1 v2 v3 v4 v5:Value} (h:BlkAt w b T #[v0,v1,v2,v3,v4,v5]) :
 w.cell? ⟨b,0,none⟩ = some v0 ∧ w.cell? ⟨b,1,none⟩ = some v1 ∧ w.cell? ⟨b,2,none⟩ = some v2 ∧ w.cell? ⟨b,3,none⟩ = some v3 ∧ w.cell? ⟨b,4,none⟩ = some v4 ∧ w.cell? ⟨b,5,none⟩ = some v5 ∧ ∀ i,w.frozen? ⟨b,i,none⟩ = false :=
 ⟨h.cell 0,h.cell 1,h.cell 2,h.cell 3,h.cell 4,h.cell 5,h.free⟩
theorem heap_set6 (w:World) (b k:Nat) (v0 v1 v2 v3 v4 v5:Value) (h:k ≠ b) :
 ((((((w.setCell ⟨b,0,none⟩ v0).setCell ⟨b,1,none⟩ v1).setCell ⟨b,2,none⟩ v2).setCell ⟨b,3,none⟩ v3).setCell ⟨b,4,none⟩ v4).setCell ⟨b,5,none⟩ v5).heap[k]? = w.heap[k]?:=by
 rw [Below.heap_setCell _ _ _ _ h,heap_set5 _ _ _ _ _ _ _ _ h]
theorem grown_set6 {w w':World} {r b:Nat} (h:w.grownBy w' (some r)) (hb:w.heap.size ≤ b) (v0 v1 v2 v3 v4 v5:Value) :
 w.grownBy ((((((w'.setCell ⟨b,0,none⟩ v0).setCell ⟨b,1,none⟩ v1).setCell ⟨b,2,none⟩ v2).setCell ⟨b,3,none⟩ v3).setCell ⟨b,4,none⟩ v4).setCell ⟨b,5,none⟩ v5) (some r) :=
 grown_set_new (grown_set5 h hb _ _ _ _ _) hb _ _
set_option maxHeartbeats 8000000 in
theorem member_any {B w:World} {r d mb n:Nat} {s:ByteArray} {m:Mk} {ms:List Lx} {c:Nat} {acc:List Mem} (hs:s.size ≤ 65536) (hV:ValC B s r d) (hB:Bas B w r) (h:StAt w r s m ms c (12 - d:Int)) (hM:SeenAt w mb n acc) (hne:mb ≠ r) (R:PR Mem) (hR:Hid (memP (valP d) m ms c acc = R)) :
 Calls Tryz.prog 130 #[.pointer (some ⟨r,0,none⟩),.map (some mb)] w (KPost R s r (12 - d:Int) w):=by
 have hlt:=h.lt
 obtain ⟨dd,hdd⟩:∃ dd:Int,(12 - d:Int) = dd:=⟨_,rfl⟩
 rw [hdd] at h ⊢
 have HDD:=Lib.hid hdd
 have hkc:=h.kcell
 have htc:=h.tname
 have hr:=hR.out
 unfold memP at hr
 have HS:=Lib.hid h
 have HB:=Lib.hid hB
 by_cases h10:m.k ≠ 10
 ·rw [if_pos h10] at hr
  have hne0:=wrongE_ne m
  generalize hv:wrongE m 3 = v at hr hne0
  have HV:=Lib.hid hv
  subst hr
  have hb:(m.k != 10) = true:=by rw [bne_iff_ne]; exact h10
  have HW:=Lib.hid (fun (W:World) (hc:W.cell? ⟨r,2,none⟩ = some (.int .u8 m.k)) => wrong_any hc v HV)
  clear hR hB h hM hdd hv h10
  go_enter Tryz.func130,Tryz.ntmps130
  go_wp2_with fail
  refine (HW.out _ (by rw [cell_al_lt _ _ _ _ hlt]; exact hkc)).mono ?_
  rintro e w' ⟨rfl,rfl⟩
  go_wp2_with fail
  exact bodyPost_ret (v:=.tuple #[zeroM,.int .i64 v]) (by simp [results,Tryz.results130,go_sem,zeroM]) rfl ⟨grown_alloc (World.grownBy.refl _ _) _,rfl,(HS.out.keep (bel_alloc (Below.refl _ _) _)).bad,hne0⟩
 ·rw [if_neg h10] at hr
  have hb:(m.k != 10) = false:=by simpa using h10
  have hk11:m.k ≠ 11:=by omega
  have hnm:=mname_size h.mkb
  have hlook:=(hM.alloc (.cells #[.string ⟨#[]⟩,.int .u8 0,.int .i64 0,.string ⟨#[]⟩,.slice none 0 0,.slice none 0 0] 176)).look (s:=m.name) (by unfold maxLen; omega)
  have HSN:=Lib.hid hnm
  by_cases hn:hasN acc m.name = true
  ·rw [if_pos hn] at hr
   subst hr
   rw [if_pos hn] at hlook
   clear hR hB h hM hdd h10 hn
   go_enter Tryz.func130,Tryz.ntmps130
   go_wp2_with fail
   exact bodyPost_ret (v:=.tuple #[zeroM,.int .i64 7]) (by simp [results,Tryz.results130,go_sem,zeroM]) rfl ⟨grown_alloc (World.grownBy.refl _ _) _,rfl,(HS.out.keep (bel_alloc (Below.refl _ _) _)).bad,by decide⟩
  rw [if_neg hn] at hr hlook
  have hb0:Below w.heap.size w (w.alloc (.cells zeroMs 176)):=bel_alloc (Below.refl _ _) _
  have HRB:Hid (BlkAt (w.alloc (.cells zeroMs 176)) w.heap.size 176 zeroMs):=blkAt_new _ _ _
  have HB0:=Lib.hid hb0
  obtain ⟨RQ,hRQ⟩:∃ RQ,expQ 6 ms = RQ:=⟨_,rfl⟩
  rw [hRQ] at hr
  have HE:=Lib.hid (expect_any hs (hB.grown (grown_of hb0 _)) (h.keep hb0) hk11 6 RQ (Lib.hid hRQ))
  have hs0:(w.alloc (.cells zeroMs 176)).heap.size = w.heap.size + 1:=size_al _ _
  have HS0:=Lib.hid hs0
  have hgo:∀ a b,RQ ≠ .go a b:=by
   intro a b e
   rw [e] at hRQ
   match ms with
   | [] => simp [expQ] at hRQ
   | .err p e :: tl => simp [expQ] at hRQ
   | .tok m2 :: r2 =>
     simp only [expQ] at hRQ
     split at hRQ <;> simp at hRQ
  have hf6:∀ a b,RQ = .fin a b → a.k = 6:=by
   intro a b e
   rw [e] at hRQ
   match ms with
   | [] => simp [expQ] at hRQ
   | .err p e :: tl => simp [expQ] at hRQ
   | .tok m2 :: r2 =>
     simp only [expQ] at hRQ
     split at hRQ
     ·simp only [MQ.fin.injEq] at hRQ
      rw [← hRQ.1]; assumption
     ·simp at hRQ
  clear hR hB h hM hdd h10 hn hRQ hb0 hs0 hnm
  generalize hnmv:m.name = nm at *
  clear hnmv
  go_enter Tryz.func130,Tryz.ntmps130
  go_wp2_with fail
  clear hlook hkc htc
  cases RQ with
  | go a b => exact absurd rfl (hgo a b)
  | bad p er =>
    dsimp only at hr
    subst hr
    refine HE.out.mono ?_
    rintro e' w1 ⟨hg1,rfl,hbad,hne1⟩
    have heb:(er != 0) = true:=by rw [bne_iff_ne]; exact hne1
    have hs1:=hg1.size
    rw [HS0.out] at hs1
    obtain ⟨z0,z1,z2,z3,z4,z5,zf⟩:=blk6 (HRB.out.grown hg1 (by intro e; cases e; omega))
    have hg':w.grownBy w1 (some r):=(grown_of HB0.out _).trans hg1
    go_wp2_with fail
    exact bodyPost_ret (v:=.tuple #[zeroM,.int .i64 er]) (by simp [results,Tryz.results130,go_sem,zeroM,z0,z1,z2,z3,z4,z5]) rfl ⟨grown_set6 hg' (Nat.le_refl _) _ _ _ _ _ _,rfl,hbad.same (heap_set6 _ _ _ _ _ _ _ _ _ (by omega)),hne1⟩
  | fin m2 r2 =>
    dsimp only at hr
    have hk2:m2.k ≠ 11:=by rw [hf6 m2 r2 rfl]; decide
    refine HE.out.mono ?_
    rintro e' w1 ⟨hg1,rfl,hst1⟩
    have hs1:=hg1.size
    rw [HS0.out] at hs1
    have HZ1:Hid (BlkAt w1 w.heap.size 176 zeroMs):=HRB.out.grown hg1 (by intro e; cases e; omega)
    have HG1:Hid (w.grownBy w1 (some r)):=(grown_of HB0.out _).trans hg1
    match r2 with
    | [] => exact absurd hst1.nonil hk2
    | .err p er :: tl =>
      have hne1:=hst1.err
      have heb:(er != 0) = true:=by rw [bne_iff_ne]; exact hne1
      dsimp only [nextL] at hr
      subst hr
      have HN:=Lib.hid (next_err hs (HB.out.grown HG1.out) hst1 hk2 (Lib.hid rfl))
      clear hst1 hg1
      go_wp2_with fail
      refine HN.out.mono ?_
      rintro e' w2 ⟨rfl,hg2,hbad⟩
      have hs2:=hg2.size
      obtain ⟨z0,z1,z2,z3,z4,z5,zf⟩:=blk6 (HZ1.out.grown hg2 (by intro e; cases e; omega))
      have hg':w.grownBy w2 (some r):=HG1.out.trans hg2
      go_wp2_with fail
      exact bodyPost_ret (v:=.tuple #[zeroM,.int .i64 er]) (by simp [results,Tryz.results130,go_sem,zeroM,z0,z1,z2,z3,z4,z5]) rfl ⟨grown_set6 hg' (Nat.le_refl _) _ _ _ _ _ _,rfl,hbad.same (heap_set6 _ _ _ _ _ _ _ _ _ (by omega)),hne1⟩
    | .tok m3 :: r3 =>
      dsimp only [nextL] at hr
      have HN:=Lib.hid (next_tok hs (HB.out.grown HG1.out) hst1 hk2 (Lib.hid rfl))
      clear hst1 hg1
      go_wp2_with fail
      refine HN.out.mono ?_
      rintro e' w2 ⟨rfl,hg2,hst2⟩
      have hs2:=hg2.size
      have HZ2:Hid (BlkAt w2 w.heap.size 176 zeroMs):=HZ1.out.grown hg2 (by intro e; cases e; omega)
      have HG2:Hid (w.grownBy w2 (some r)):=HG1.out.trans hg2
      obtain ⟨R1,hR1⟩:∃ R1,valP d m3 r3 c = R1:=⟨_,rfl⟩
      have HC:=Lib.hid (hV w2 m3 r3 c (HB.out.grown HG2.out) (by rw [HDD.out]; exact hst2))
      rw [HDD.out,hR1] at HC
      rw [hR1] at hr
      clear hst2 hg2 hR1 HZ1 HG1 HN HE
      cases R1 with
      | bad p er =>
        dsimp only at hr
        subst hr
        go_wp2_with fail
        refine HC.out.mono ?_
        rintro e' w3 ⟨hg3,rfl,hbad,hne1⟩
        have heb:(er != 0) = true:=by rw [bne_iff_ne]; exact hne1
        have hs3:=hg3.size
        obtain ⟨z0,z1,z2,z3,z4,z5,zf⟩:=blk6 ((HZ2.out.grown hg3 (by intro e; cases e; omega)).alloc (.cells #[.int .u8 0,.int .i64 0,.string ⟨#[]⟩,.slice none 0 0,.slice none 0 0] 29))
        have hg':w.grownBy w3 (some r):=HG2.out.trans hg3
        have hr3:r < w3.heap.size:=by omega
        simp only [zeroV]
        go_wp2_with fail
        exact bodyPost_ret (v:=.tuple #[zeroM,.int .i64 er]) (by simp [results,Tryz.results130,go_sem,zeroM,z0,z1,z2,z3,z4,z5]) rfl ⟨grown_set6 (grown_alloc hg' _) (Nat.le_refl _) _ _ _ _ _ _,rfl,hbad.same ((heap_set6 _ _ _ _ _ _ _ _ _ (by omega)).trans ((bel_alloc (Below.refl w3.heap.size w3) _).block r hr3)),hne1⟩
      | ok V ms1 c1 =>
        dsimp only at hr
        subst hr
        go_wp2_with fail
        refine HC.out.mono ?_
        rintro e' w3 ⟨hg3,⟨xk,xn,xt,xa,xl,xc,xb,xm,xe⟩,m1,rfl,hnew,hst3,hk3⟩
        simp only [VC.val]
        have hs3:=hg3.size
        obtain ⟨z0,z1,z2,z3,z4,z5,zf⟩:=blk6 ((HZ2.out.grown hg3 (by intro e; cases e; omega)).alloc (.cells #[.int .u8 xk,.int .i64 xn,.string xt,.slice xa xl xc,.slice xb xm xe] 29))
        have hg':w.grownBy w3 (some r):=HG2.out.trans hg3
        have hr3:r < w3.heap.size:=by omega
        have HNew:=Lib.hid hnew
        have HSt3:=Lib.hid hst3
        clear hnew hst3
        go_wp2_with fail
        exact bodyPost_ret (v:=.tuple #[.agg #[.string nm,.int .u8 xk,.int .i64 xn,.string xt,.slice xa xl xc,.slice xb xm xe],.int .i64 0]) (by simp [results,Tryz.results130,go_sem,z0,z1,z2,z3,z4,z5]) rfl
         ⟨grown_set6 (grown_alloc hg' _) (Nat.le_refl _) _ _ _ _ _ _,⟨xk,xn,xt,xa,xl,xc,xb,xm,xe⟩,m1,rfl,
          HNew.out.carry (fun k hk hP => ⟨offB_none.2 (by have:=offB_none.1 hP; omega),(heap_set6 _ _ _ _ _ _ _ _ _ (by have:=offB_none.1 hP; omega)).trans ((bel_alloc (Below.refl w3.heap.size w3) _).block k hk)⟩),HSN.out,
          HSt3.out.same ((heap_set6 _ _ _ _ _ _ _ _ _ (by omega)).trans ((bel_alloc (Below.refl w3.heap.size w3) _).block r hr3)),hk3⟩
end
section
open Go.RowKit Go.WideMaps Go.Maps
structure XM where
 name:ByteArray
 c:VC
 V:JV
instance : Inhabited XM:=⟨⟨⟨#[]⟩,default,.mk 0 0 ⟨#[]⟩ [] []⟩⟩
def XM.cells (x:XM):List Value:=[.string x.name,.int .u8 x.c.k,.int .i64 x.c.n,.string x.c.t,.slice x.c.a x.c.l x.c.c,.slice x.c.b x.c.m x.c.e]
theorem XM.cells_len (x:XM):x.cells.length = 6:=rfl
theorem XM.cells_one (x:XM):∀ v ∈ x.cells,v.oneCell' = true:=by
 intro v hv
 simp only [XM.cells,List.mem_cons,List.not_mem_nil,or_false] at hv
 rcases hv with rfl | rfl | rfl | rfl | rfl | rfl <;> rfl
def XM.mem (x:XM):Mem:=(x.name,x.V)
def xmCells (xs:List XM):List Value:=xs.flatMap XM.cells
theorem xmCells_snoc (xs:List XM) (x:XM):xmCells (xs ++ [x]) = xmCells xs ++ x.cells:=by simp [xmCells]
theorem xmCells_len (xs:List XM):(xmCells xs).length = xs.length * 6:=by
 induction xs with
 | nil => rfl
 | cons m r ih => simp only [xmCells,List.flatMap_cons,List.length_append,List.length_cons] at *; rw [ih,XM.cells_len]; omega
theorem xmCells_get:∀ (xs:List XM) (i:Nat) (x:XM),xs[i]? = some x → ∀ j,j < 6 → (xmCells xs)[i * 6 + j]? = x.cells[j]?
 | [],i,x,h,_,_ => by simp at h
 | y :: r,0,x,h,j,hj => by
   simp at h; subst h
   show (y.cells ++ xmCells r)[0 * 6 + j]? = _
   rw [Nat.zero_mul,Nat.zero_add,List.getElem?_append_left (by rw [XM.cells_len]; omega)]
 | y :: r,i + 1,x,h,j,hj => by
   show (y.cells ++ xmCells r)[(i + 1) * 6 + j]? = _
   rw [List.getElem?_append_right (by rw [XM.cells_len]; omega),← xmCells_get r i x (by simpa using h) j hj,XM.cells_len]
   congr 1
   omega
def MemsOwn (w:World) (B:Nat) (v:Value) (xs:List XM):Prop:=w.ownsRow B 176 6 v xs.length (xmCells xs) ∧ ∀ x ∈ xs,ValAt (hidden (offB B v.ownBlock) w) x.V x.c.val
theorem MemsOwn.nil (w:World) (B:Nat):MemsOwn w B (.slice none 0 0) []:=⟨World.ownsRow_nil _ _ _ _,by simp⟩
theorem MemsOwn.kept {w w':World} {B r:Nat} {v:Value} {xs:List XM} (h:MemsOwn w B v xs) (hr:r < B) (hg:w.grownBy w' (some r)):MemsOwn w' B v xs:=by
 refine ⟨?_,fun x hx => (h.2 x hx).carry fun k hk hP => ⟨hP,hg.block k hk (fun e => ?_)⟩⟩
 ·cases hv:v.ownBlock with
  | none => exact h.1.kept hg (Or.inl hv)
  | some g =>
    refine h.1.kept hg (Or.inr ?_)
    rw [hv]
    intro e
    have:=(World.ownsRow.lt h.1 g hv).1
    cases e
    omega
 ·have:=(offB_no.1 hP).1
  cases e
  omega
theorem MemsOwn.snoc {wr w1 w5:World} {B:Nat} {vI v':Value} {xs:List XM} {nm:ByteArray} {x:VC} {V:JV} (h:MemsOwn wr B vI xs) (hx:NewV wr.heap.size w1 V x.val) (hB:B ≤ wr.heap.size) (hsz:wr.heap.size ≤ w1.heap.size)
 (hv:v'.ownBlock = vI.ownBlock ∨ ∃ g,v'.ownBlock = some g ∧ w1.heap.size ≤ g) (hown:w5.ownsRow B 176 6 v' (xs.length + 1) (xmCells xs ++ XM.cells ⟨nm,x,V⟩))
 (hk:∀ k,k < w1.heap.size → B ≤ k → vI.ownBlock ≠ some k → w5.heap[k]? = w1.heap[k]?) (hk0:∀ k,k < wr.heap.size → B ≤ k → w1.heap[k]? = wr.heap[k]?):MemsOwn w5 B v' (xs ++ [⟨nm,x,V⟩]):=by
 have hne:∀ k,k < w1.heap.size → vI.ownBlock ≠ some k → v'.ownBlock ≠ some k:=fun k hk1 hk2 => by
  rcases hv with e | ⟨g,e,hg⟩
  ·rw [e]; exact hk2
  ·rw [e]; intro e2; cases e2; omega
 refine ⟨by rw [List.length_append,xmCells_snoc]; exact hown,fun y hy => ?_⟩
 rw [List.mem_append] at hy
 rcases hy with hy | hy
 ·refine (h.2 y hy).carry fun k hk1 hk2 => ?_
  obtain ⟨a,b⟩:=offB_no.1 hk2
  exact ⟨offB_no.2 ⟨a,hne k (by omega) b⟩,(hk k (by omega) a b).trans (hk0 k hk1 a)⟩
 ·simp only [List.mem_singleton] at hy
  subst hy
  refine ValAt.carry hx fun k hk1 hk2 => ?_
  have a:=offB_none.1 hk2
  have b:vI.ownBlock ≠ some k:=fun e => by
   have:=(World.ownsRow.lt h.1 k e).2
   omega
  exact ⟨offB_no.2 ⟨by omega,hne k hk1 b⟩,hk k hk1 (by omega) b⟩
theorem infoMem:(Tryz.prog.info? 176).map (fun i => (i.zero,i.size,i.bytes)) = some (some zeroM,6,96):=by kernel_rfl
theorem isKey_string (l:List UInt8):WideAt.IsKeyLit (.string l):=by
 first | trivial | exact ⟨_,rfl⟩ | (simp [WideAt.IsKeyLit]) | (unfold WideAt.IsKeyLit; rfl)
theorem seen_put {w':World} {b n:Nat} {acc:List Mem} {D:DataW Unit} {nm:ByteArray} {V:JV} (hm:IsMap D) (hat:∀ key:List UInt8,D.atKey (.string key) (.lit (.int .i64 0)) = .lit (.int .i64 (if acc.any (fun x => x.1.data.toList == key) = true then 1 else 0)))
 (h:w'.ownsMap Tryz.prog 9 (plainElem Tryz.prog 3) b n (D.put (.string nm.data.toList) (.lit (.int .i64 1)))):SeenAt w' b n (acc ++ [(nm,V)]):=by
 refine ⟨_,h,hm.put _ _,fun key => ?_⟩
 by_cases e:nm.data.toList = key
 ·subst e
  rw [atKey_put_same hm (isKey_string _)]
  simp
 ·rw [atKey_put_other (fun h => e (by cases h; rfl)),hat]
  have:(nm.data.toList == key) = false:=beq_eq_false_iff_ne.2 e
  rw [List.any_append,List.any_cons,List.any_nil,this,Bool.or_false,Bool.or_false]
theorem seen_nil {w:World}:SeenAt (w.alloc (.map #[] 0)) w.heap.size 0 []:=⟨_,World.ownsMap_made _ _ _ _,isMap_empty,fun _key => rfl⟩
theorem memP_ok {val:Mk → List Lx → Nat → PR JV} {m:Mk} {ms:List Lx} {c:Nat} {acc:List Mem} {x:Mem} {ms':List Lx} {c':Nat} (h:memP val m ms c acc = .ok x ms' c'):hasN acc x.1 = false ∧ ∃ m3 r3,val m3 r3 c = .ok x.2 ms' c' ∧ r3.length + 2 = ms.length:=by
 unfold memP at h
 by_cases h1:m.k ≠ 10
 ·rw [if_pos h1] at h; simp at h
 rw [if_neg h1] at h
 by_cases h2:hasN acc m.name = true
 ·rw [if_pos h2] at h; simp at h
 rw [if_neg h2] at h
 match ms with
 | [] => simp [expQ] at h
 | .err p e :: tl => simp [expQ] at h
 | .tok m2 :: r2 =>
   simp only [expQ] at h
   by_cases h6:m2.k = 6
   ·rw [if_pos h6] at h
    match r2 with
    | [] => simp [nextL] at h
    | .err p e :: tl => simp [nextL] at h
    | .tok m3 :: r3 =>
      simp only [nextL] at h
      cases hv:val m3 r3 c with
      | bad p e => rw [hv] at h; simp at h
      | ok v ms1 c1 =>
        rw [hv] at h
        simp only [PR.ok.injEq] at h
        obtain ⟨rfl,rfl,rfl⟩:=h
        exact ⟨by simpa using h2,m3,r3,hv,by simp⟩
   ·rw [if_neg h6] at h
    simp at h
end
end

section
set_option maxRecDepth 100000
open Go.RowKit Go.WideMaps Go.Maps
def SortC:Prop:=∀ (w:World) (B:Nat) (xs:List XM) (a:Option Addr) (l cp:Nat),MemsOwn w B (.slice a l cp) xs → xs ≠ [] → xs.length ≤ 8192 → B ≤ w.heap.size → (∀ x ∈ xs,x.name.size ≤ 4096) → Apart (xs.map XM.mem) →
 Calls Tryz.prog 131 #[.slice a l cp] w fun e w' => ∃ x:VC,e = .returned x.val ∧ NewV B w' (objV (xs.map XM.mem)) x.val ∧ w.grownBy w' (Value.slice a l cp).ownBlock
set_option maxHeartbeats 16000000 in
theorem object_any {B w:World} {r d:Nat} {s:ByteArray} {m:Mk} {ms:List Lx} {c:Nat} (hSort:SortC) (hs:s.size ≤ 65536) (hV:ValC B s r d) (hB:Bas B w r) (h:StAt w r s m ms c (12 - d:Int)) (hk:m.k ≠ 11) (hc:c ≤ 8192) (R:PR JV) (hR:Hid (objP (valP d) ms c = R)) :
 Calls Tryz.prog 112 #[.pointer (some ⟨r,0,none⟩)] w (VPost R s r (12 - d:Int) w):=by
 have hlt:=h.lt
 obtain ⟨dd,hdd⟩:∃ dd:Int,(12 - d:Int) = dd:=⟨_,rfl⟩
 rw [hdd] at h ⊢
 have HDD:=Lib.hid hdd
 have hrb0:BlkAt (w.alloc (.cells zeroCs 29)) w.heap.size 29 zeroCs:=blkAt_new w zeroCs _
 have hb0:Below w.heap.size w (w.alloc (.cells zeroCs 29)):=bel_alloc (Below.refl _ _) _
 have hs0:(w.alloc (.cells zeroCs 29)).heap.size = w.heap.size + 1:=size_al _ _
 match ms with
 | [] => exact absurd h.nonil hk
 | .err p e :: tl =>
   have hne:=h.err
   have heb:(e != 0) = true:=by rw [bne_iff_ne]; exact hne
   have hr:=hR.out
   subst hr
   have HN:=Lib.hid (next_err hs (hB.grown (grown_of hb0 _)) (h.keep hb0) hk (Lib.hid rfl))
   have HRB:=Lib.hid hrb0
   have HB0:=Lib.hid hb0
   clear hR hB h hb0 hrb0 hs0 hdd
   go_enter Tryz.func112,Tryz.ntmps112
   go_wp2_with fail
   refine HN.out.mono ?_
   rintro e' w' ⟨rfl,hg,hb⟩
   obtain ⟨z0,z1,z2,z3,z4,zf⟩:=blk5 (HRB.out.grown hg (by intro e; cases e; omega))
   have hg':w.grownBy w' (some r):=(grown_of HB0.out _).trans hg
   go_wp2_with fail
   exact bodyPost_ret (v:=.tuple #[zeroV,.int .i64 e]) (by simp [results,Tryz.results112,go_sem,zeroV,z0,z1,z2,z3,z4]) rfl ⟨grown_set5 hg' (Nat.le_refl _) _ _ _ _ _,rfl,hb.same (heap_set5 _ _ _ _ _ _ _ _ (by omega)),hne⟩
 | .tok m2 :: r2 =>
   have HN:=Lib.hid (next_tok hs (hB.grown (grown_of hb0 _)) (h.keep hb0) hk (Lib.hid rfl))
   have HRB:=Lib.hid hrb0
   have HB0:=Lib.hid hb0
   have HS0:=Lib.hid hs0
   have HBas:=Lib.hid hB
   have hr:=hR.out
   unfold objP at hr
   dsimp only [nextL] at hr
   by_cases h4:m2.k = 2
   ·rw [if_pos h4] at hr
    subst hr
    have hb4:(m2.k == 2) = true:=by rw [h4]; rfl
    have h11:m2.k ≠ 11:=by omega
    clear hR hB h hb0 hrb0 hs0 hdd h4
    go_enter Tryz.func112,Tryz.ntmps112
    go_wp2_with fail
    refine HN.out.mono ?_
    rintro e' w' ⟨rfl,hg,hst⟩
    obtain ⟨z0,z1,z2,z3,z4,zf⟩:=blk5 (HRB.out.grown hg (by intro e; cases e; omega))
    have hg':w.grownBy w' (some r):=(grown_of HB0.out _).trans hg
    have hkc:=hst.kcell
    have HST:=Lib.hid hst
    clear hst
    go_wp2_with fail
    exact bodyPost_ret (v:=.tuple #[.agg #[.int .u8 5,.int .i64 0,.string ⟨#[]⟩,.slice none 0 0,.slice none 0 0],.int .i64 0]) (by simp [results,Tryz.results112,go_sem,z0,z1,z2,z3,z4]) rfl ⟨grown_set5 hg' (Nat.le_refl _) _ _ _ _ _,⟨5,0,⟨#[]⟩,none,0,0,none,0,0⟩,m2,rfl,valAt_leaf _ 5 0 ⟨#[]⟩ (by decide) (by decide) (by decide) (by decide) (by decide),HST.out.same (heap_set5 _ _ _ _ _ _ _ _ (by omega)),h11⟩
   ·rw [if_neg h4] at hr
    have HRR:Hid (membersP (valP d) (r2.length + 1) m2 r2 c [] = R):=hr
    have hb4:(m2.k == 2) = false:=beq_eq_false_iff_ne.2 h4
    obtain ⟨i0,hi,hz0,hz1,hz2⟩:=info_parts infoMem
    have HI:=Lib.hid hi
    have HZ0:=Lib.hid hz0
    have HZ1:=Lib.hid hz1
    have HZ2:=Lib.hid hz2
    have hmm:=@run_makeMap Tryz.prog
    have HSORT:=Lib.hid hSort
    clear hr hR hB h hb0 hrb0 hs0 hdd h4 hi hz0 hz1 hz2
    go_enter Tryz.func112,Tryz.ntmps112
    go_wp2_with fail
    refine HN.out.mono ?_
    rintro e' w' ⟨rfl,hg,hst⟩
    have HZB:Hid (BlkAt w' w.heap.size 29 zeroCs):=HRB.out.grown hg (by intro e; cases e; omega)
    have hg':w.grownBy w' (some r):=(grown_of HB0.out _).trans hg
    have hs2:w.heap.size + 1 ≤ w'.heap.size:=by have:=hg.size; rw [HS0.out] at this; exact this
    have hkc:=hst.kcell
    have HST:=Lib.hid hst
    clear hst hg HN HRB HB0 HS0
    go_wp2_with fail
    clear hkc
    have HZB2:Hid (BlkAt (w'.alloc (.map #[] 0)) w.heap.size 29 zeroCs):=HZB.out.alloc _
    have HG2:Hid (w.grownBy (w'.alloc (.map #[] 0)) (some r)):=grown_alloc hg' _
    have HST2:Hid (StAt (w'.alloc (.map #[] 0)) r s m2 r2 c dd):=HST.out.keep (bel_alloc (Below.refl _ _) _)
    have HM2:Hid (SeenAt (w'.alloc (.map #[] 0)) w'.heap.size 0 []):=seen_nil
    have hs3:w'.heap.size + 1 ≤ (w'.alloc (.map #[] 0)).heap.size:=by rw [size_al]; omega
    generalize w'.alloc (.map #[] 0) = w'' at HZB2 HG2 HST2 HM2 hs3 ⊢
    obtain ⟨mb,hmb⟩:∃ mb,w'.heap.size = mb:=⟨_,rfl⟩
    rw [hmb] at HM2 hs3 hs2 ⊢
    clear HZB hg' HST hmb
    go_loopg [5] r2.length (fun gk u wr => ∃ (mk:Mk) (ms':List Lx) (c':Nat) (xs:List XM) (a:Option Addr) (l cp f:Nat),gk = ms'.length ∧ u = .slice a l cp ∧ ms'.length < f ∧ xs.length ≤ c' ∧ c' ≤ 8192 ∧ mb + 1 ≤ wr.heap.size ∧ Hid (StAt wr r s mk ms' c' dd) ∧ Hid (BlkAt wr w.heap.size 29 zeroCs) ∧
     Hid (SeenAt wr mb xs.length (xs.map XM.mem)) ∧ Hid (MemsOwn wr (mb + 1) (.slice a l cp) xs) ∧ Hid ((∀ x ∈ xs,x.name.size ≤ 4096) ∧ Apart (xs.map XM.mem)) ∧ Hid (w.grownBy wr (some r)) ∧ Hid (membersP (valP d) f mk ms' c' (xs.map XM.mem) = R))
    case atStart => exact ⟨m2,r2,c,[],none,0,0,r2.length + 1,rfl,rfl,by omega,by simp,hc,hs3,HST2,HZB2,HM2,MemsOwn.nil _ _,⟨by simp,List.Pairwise.nil⟩,HG2,HRR⟩
    case round =>
     obtain ⟨mk,ms',c',xs,a,l,cp,f,rfl,rfl,hf,hxs,hc',hs4,HSt,HZb,HSe,HMo,HNd,HGr,HRr⟩:=hrel
     clear HST2 HZB2 HM2 HG2 HRR hs3
     obtain ⟨f',rfl⟩:∃ f',f = f' + 1:=⟨f - 1,by omega⟩
     obtain ⟨R1,hR1⟩:∃ R1,memP (valP d) mk ms' c' (xs.map XM.mem) = R1:=⟨_,rfl⟩
     have HC:=Lib.hid (member_any hs hV (HBas.out.grown HGr.out) (by rw [HDD.out]; exact HSt.out) HSe.out (by omega) R1 (Lib.hid hR1))
     rw [HDD.out] at HC
     have hstep:=HRr.out
     rw [membersP_step,hR1] at hstep
     cases R1 with
     | bad p er =>
       dsimp only at hstep
       subst hstep
       clear hR1 HRr
       go_wp2_with fail
       refine HC.out.mono ?_
       rintro e' w1 ⟨hg1,rfl,hbad,hne⟩
       have heb:(er != 0) = true:=by rw [bne_iff_ne]; exact hne
       have hs1:=hg1.size
       obtain ⟨z0,z1,z2,z3,z4,zf⟩:=blk5 ((HZb.out.grown hg1 (by intro e; cases e; omega)).alloc (.cells #[.string ⟨#[]⟩,.int .u8 0,.int .i64 0,.string ⟨#[]⟩,.slice none 0 0,.slice none 0 0] 176))
       have hg2:=HGr.out.trans hg1
       have hr1:r < w1.heap.size:=by omega
       simp only [zeroM]
       go_wp2_with fail
       exact bodyPost_ret (v:=.tuple #[zeroV,.int .i64 er]) (by simp [results,Tryz.results112,go_sem,zeroV,z0,z1,z2,z3,z4]) rfl ⟨grown_set5 (grown_alloc hg2 _) (Nat.le_refl _) _ _ _ _ _,rfl,hbad.same ((heap_set5 _ _ _ _ _ _ _ _ (by omega)).trans ((bel_alloc (Below.refl w1.heap.size w1) _).block r hr1)),hne⟩
     | ok X ms1 c1 =>
       obtain ⟨nm,V⟩:=X
       dsimp only at hstep
       rw [moreP_Q] at hstep
       obtain ⟨hfresh,m3,r3,hval,hlr⟩:=memP_ok hR1
       obtain ⟨hcnt1,hcnt2⟩:=val_count d _ _ _ _ _ _ hval
       obtain ⟨pre1,-,hpre,-⟩:=val_takes d _ _ _ _ _ _ hval
       have hml:ms'.length = pre1.length + ms1.length + 2:=by rw [← hlr,hpre,List.length_append]
       obtain ⟨R2,hR2⟩:∃ R2,moreQ 2 ms1 = R2:=⟨_,rfl⟩
       rw [hR2] at hstep
       have HR2:=Lib.hid hR2
       have HSTEP:=Lib.hid hstep
       have HML:=Lib.hid hml
       have HFr:=Lib.hid hfresh
       clear hR1 HRr hR2 hstep hpre hml hfresh hval hlr
       go_wp2_with fail
       refine HC.out.mono ?_
       rintro e' w1 ⟨hg1,⟨xk,xn,xt,xa,xl,xc,xb,xm,xe⟩,m1,rfl,hnew,hnsz,hst1,hk1⟩
       simp only [VC.mem]
       have hs1:=hg1.size
       have HZ1b:Hid (BlkAt w1 w.heap.size 29 zeroCs):=HZb.out.grown hg1 (by intro e; cases e; omega)
       have HSe1:Hid (SeenAt w1 mb xs.length (xs.map XM.mem)):=HSe.out.kept hg1 (by intro e; cases e; omega)
       have HI1:Hid (MemsOwn w1 (mb + 1) (.slice a l cp) xs):=HMo.out.kept (by omega) hg1
       have HG1:Hid (w.grownBy w1 (some r)):=HGr.out.trans hg1
       have HGq:=Lib.hid hg1
       have HSt1:=Lib.hid hst1
       have HNew:Hid (NewV wr.heap.size w1 V (VC.val ⟨xk,xn,xt,xa,xl,xc,xb,xm,xe⟩)):=hnew
       clear hg1 hst1 hnew HC
       go_wp2_with (at_builtin; refine wpList_append_own_at _ rfl _ _ 174 rfl (mb + 1) 176 i0 zeroM 6 96 Tryz.underlying174 HI.out HZ0.out HZ1.out HZ2.out rfl (by decide) _ _ _ rfl (World.ownsRow.alloc (World.ownsRow.alloc HI1.out.1 _) _) ⟨w1.heap.size + 1,0,none⟩ 1 1 [.string nm,.int .u8 xk,.int .i64 xn,.string xt,.slice xa xl xc,.slice xb xm xe] rfl rfl ?c1 ?c2 ?c3 ?c4 ?c5 ?_)
       case c2 => exact ⟨rfl,rfl,rfl,rfl,rfl,rfl⟩
       case c3 => unfold maxLen; omega
       case c4 => omega
       case c5 => omega
       intro v' w4 hown4 hgrow _ hblk
       obtain ⟨g',cp',rfl,-,-⟩:=World.ownsRow.form hown4 (by omega)
       have hwa:∀ k,k < w1.heap.size → ((w1.alloc (.cells #[.string nm,.int .u8 xk,.int .i64 xn,.string xt,.slice xa xl xc,.slice xb xm xe] 176)).alloc (.cells #[.string nm,.int .u8 xk,.int .i64 xn,.string xt,.slice xa xl xc,.slice xb xm xe] 176)).heap[k]? = w1.heap[k]?:=fun k hk => (bel_alloc (bel_alloc (Below.refl _ _) _) _).block k hk
       have hwb:∀ k,k < w1.heap.size → (Value.slice a l cp).ownBlock ≠ some k → w4.heap[k]? = w1.heap[k]?:=fun k hk hne => (hgrow.block k (by rw [size_al,size_al]; omega) (fun e => hne e.symm)).trans (hwa k hk)
       have hlo:∀ k,k < mb + 1 → (Value.slice a l cp).ownBlock ≠ some k:=fun k hk e => by have:=(World.ownsRow.lt HI1.out.1 k e).1; omega
       have hs5:w1.heap.size + 2 ≤ w4.heap.size:=by have:=hgrow.size; rw [size_al,size_al] at this; omega
       have hnm0:w4.cell? ⟨w1.heap.size,0,none⟩ = some (.string nm):=by
        refine hgrow.cell (by rw [cell_al_lt _ _ _ _ (by rw [size_al]; omega),cell_al_eq _ _ _ _ _ rfl]; rfl) ?_
        intro e
        exact Nat.lt_irrefl _ (World.ownsRow.lt HI1.out.1 _ e.symm).2
       have HZ4:Hid (BlkAt w4 w.heap.size 29 zeroCs):=(hwb _ (by omega) (hlo _ (by omega))).trans HZ1b.out
       have HS4:Hid (StAt w4 r s m1 ms1 c1 dd):=HSt1.out.same (hwb _ (by omega) (hlo _ (by omega)))
       have HG4:Hid (w.grownBy w4 (some r)):=⟨hgrow.os.trans HG1.out.os,hgrow.tape.trans HG1.out.tape,hgrow.output.trans HG1.out.output,by omega,fun k hk hne => (hwb k (by omega) (hlo k (by omega))).trans (HG1.out.block k hk hne)⟩
       have HSe4:Hid (SeenAt w4 mb xs.length (xs.map XM.mem)):=((HSe1.out.alloc _).alloc _).kept hgrow (fun e => hlo mb (by omega) e.symm)
       have HI4:Hid (MemsOwn w4 (mb + 1) (.slice (some ⟨g',0,none⟩) (xs.length + 1) cp') (xs ++ [⟨nm,⟨xk,xn,xt,xa,xl,xc,xb,xm,xe⟩,V⟩])) :=
        MemsOwn.snoc HMo.out HNew.out hs4 hs1 (hblk.imp_right fun e => ⟨_,e,by omega⟩) hown4 (fun k hk _ hne => hwb k hk hne) (fun k hk hB => HGq.out.block k hk (fun e => by cases e; omega))
       clear hown4 hgrow hblk hwa hwb HI1 HZ1b HSe1 HSt1 HNew HGq HG1 HMo HGr HSe HZb HSt hlo
       have hlook:=HSe4.out.look (s:=nm) (by unfold maxLen; omega)
       rw [if_neg (by rw [HFr.out]; decide)] at hlook
       obtain ⟨D,hownD,hmapD,hatD⟩:=HSe4.out
       have HOD:=Lib.hid hownD
       have HAT:=Lib.hid hatD
       clear hownD hatD
       go_wp2_with (at_mapUpdate; refine wpList_mapUpdate_own _ rfl _ _ _ 103 rfl 9 3 seenLaw Tryz.underlying103 _ mb xs.length D rfl HOD.out (by unfold maxLen; omega) _ _ _ rfl rfl (keyOf_string_mk Tryz.underlying9 (s:=nm) (by unfold maxLen; omega)) _ [] (plainElem_int Tryz.underlying3 (a:=1) (by decide)) ?_)
       intro w5 hown5 hgrow5
       have HSe5:Hid (SeenAt w5 mb (xs.length + 1) ((xs ++ [(⟨nm,⟨xk,xn,xt,xa,xl,xc,xb,xm,xe⟩,V⟩:XM)]).map XM.mem)):=by
        rw [List.map_append]
        exact seen_put hmapD HAT.out hown5
       have HZ5:Hid (BlkAt w5 w.heap.size 29 zeroCs):=HZ4.out.grown hgrow5 (by intro e; cases e; omega)
       have HS5:Hid (StAt w5 r s m1 ms1 c1 dd):=HS4.out.same (hgrow5.block r (by omega) (by intro e; cases e; omega))
       have HG5:Hid (w.grownBy w5 (some r)):=⟨hgrow5.os.trans HG4.out.os,hgrow5.tape.trans HG4.out.tape,hgrow5.output.trans HG4.out.output,Nat.le_trans HG4.out.size hgrow5.size,fun k hk hne => (hgrow5.block k (Nat.lt_of_lt_of_le hk HG4.out.size) (by intro e; cases e; omega)).trans (HG4.out.block k hk hne)⟩
       have HI5:Hid (MemsOwn w5 (mb + 1) (.slice (some ⟨g',0,none⟩) (xs.length + 1) cp') (xs ++ [⟨nm,⟨xk,xn,xt,xa,xl,xc,xb,xm,xe⟩,V⟩])):=HI4.out.kept (by omega) hgrow5
       have HN5:Hid ((∀ x ∈ (xs ++ [(⟨nm,⟨xk,xn,xt,xa,xl,xc,xb,xm,xe⟩,V⟩:XM)]),x.name.size ≤ 4096) ∧ Apart ((xs ++ [(⟨nm,⟨xk,xn,xt,xa,xl,xc,xb,xm,xe⟩,V⟩:XM)]).map XM.mem)):=by
        refine ⟨fun x hx => ?_,?_⟩
        ·rw [List.mem_append] at hx
         rcases hx with hx | hx
         ·exact HNd.out.1 x hx
         ·simp only [List.mem_singleton] at hx
          subst hx
          exact hnsz
        ·rw [List.map_append]
         exact apart_snoc HNd.out.2 HFr.out
       have hs6:=hgrow5.size
       clear hown5 hgrow5 HZ4 HS4 HG4 HI4 HSe4 HOD HAT hlook hmapD HNd hnm0 HFr
       have HM:=Lib.hid (more_any hs (HBas.out.grown HG5.out) HS5.out hk1 2 R2 HR2)
       go_wp2_with fail
       cases R2 with
       | bad p er =>
         have hfin:=HSTEP.out
         dsimp only at hfin
         subst hfin
         refine HM.out.mono ?_
         rintro e' w6 ⟨hg6,rfl,hbad,hne⟩
         have heb:(er != 0) = true:=by rw [bne_iff_ne]; exact hne
         have hs7:=hg6.size
         obtain ⟨z0,z1,z2,z3,z4,zf⟩:=blk5 (HZ5.out.grown hg6 (by intro e; cases e; omega))
         have hg':=HG5.out.trans hg6
         go_wp2_with fail
         exact bodyPost_ret (v:=.tuple #[zeroV,.int .i64 er]) (by simp [results,Tryz.results112,go_sem,zeroV,z0,z1,z2,z3,z4]) rfl ⟨grown_set5 hg' (Nat.le_refl _) _ _ _ _ _,rfl,hbad.same (heap_set5 _ _ _ _ _ _ _ _ (by omega)),hne⟩
       | fin m6 ms6 =>
         have hfin:=HSTEP.out
         dsimp only at hfin
         subst hfin
         refine HM.out.mono ?_
         rintro e' w6 ⟨hg6,rfl,hst6⟩
         have hs7:=hg6.size
         have HZ6:Hid (BlkAt w6 w.heap.size 29 zeroCs):=HZ5.out.grown hg6 (by intro e; cases e; omega)
         have HG6:Hid (w.grownBy w6 (some r)):=HG5.out.trans hg6
         have HI6:Hid (MemsOwn w6 (mb + 1) (.slice (some ⟨g',0,none⟩) (xs.length + 1) cp') (xs ++ [⟨nm,⟨xk,xn,xt,xa,xl,xc,xb,xm,xe⟩,V⟩])):=HI5.out.kept (by omega) hg6
         have HST:=Lib.hid hst6
         have h11:m6.k ≠ 11:=by have:=moreQ_fin HR2.out; omega
         have hg'lo:mb + 1 ≤ g':=(World.ownsRow.lt HI6.out.1 g' rfl).1
         have HQ:=Lib.hid (HSORT.out w6 (mb + 1) _ _ _ _ HI6.out (by simp) (by rw [List.length_append,List.length_singleton]; omega) (by omega) HN5.out.1 HN5.out.2)
         clear hst6 hg6 HZ5 HG5 HI5 HSe5 HS5 HM
         go_wp2_with fail
         refine HQ.out.mono ?_
         rintro e' w7 ⟨⟨yk,yn,yt,ya,yl,yc,yb,ym,ye⟩,rfl,hnw,hg7⟩
         simp only [VC.val]
         have hs8:=hg7.size
         obtain ⟨z0,z1,z2,z3,z4,zf⟩:=blk5 (HZ6.out.grown hg7 (by intro e; have e2:w.heap.size = g':=Option.some.inj e; omega))
         have HG7:Hid (w.grownBy w7 (some r)):=⟨hg7.os.trans HG6.out.os,hg7.tape.trans HG6.out.tape,hg7.output.trans HG6.out.output,Nat.le_trans HG6.out.size hg7.size,fun k hk hne => (hg7.block k (Nat.lt_of_lt_of_le hk HG6.out.size) (by intro e; have e2:k = g':=Option.some.inj e; omega)).trans (HG6.out.block k hk hne)⟩
         have HST7:Hid (StAt w7 r s m6 ms6 c1 dd):=HST.out.same (hg7.block r (by omega) (by intro e; have e2:r = g':=Option.some.inj e; omega))
         have HNw:=Lib.hid hnw
         clear hg7 hnw HG6 HST HQ HI6
         go_wp2_with fail
         have hnew:NewV w.heap.size (((((w7.setCell ⟨w.heap.size,0,none⟩ (.int .u8 yk)).setCell ⟨w.heap.size,1,none⟩ (.int .i64 yn)).setCell ⟨w.heap.size,2,none⟩ (.string yt)).setCell ⟨w.heap.size,3,none⟩ (.slice ya yl yc)).setCell ⟨w.heap.size,4,none⟩ (.slice yb ym ye)) (objV (xs.map XM.mem ++ [(nm,V)])) (VC.val ⟨yk,yn,yt,ya,yl,yc,yb,ym,ye⟩):=by
          have hh:=HNw.out
          rw [List.map_append] at hh
          exact hh.carry fun k hk hP => ⟨offB_none.2 (by have:=offB_none.1 hP; omega),heap_set5 _ _ _ _ _ _ _ _ (by have:=offB_none.1 hP; omega)⟩
         exact bodyPost_ret (v:=.tuple #[.agg #[.int .u8 yk,.int .i64 yn,.string yt,.slice ya yl yc,.slice yb ym ye],.int .i64 0]) (by simp [results,Tryz.results112,go_sem,z0,z1,z2,z3,z4]) rfl ⟨grown_set5 HG7.out (Nat.le_refl _) _ _ _ _ _,⟨yk,yn,yt,ya,yl,yc,yb,ym,ye⟩,m6,rfl,hnew,HST7.out.same (heap_set5 _ _ _ _ _ _ _ _ (by omega)),h11⟩
       | go m6 ms6 =>
         have hfin:=HSTEP.out
         dsimp only at hfin
         have HFIN:=Lib.hid hfin
         obtain ⟨mc,hmc⟩:=moreQ_go HR2.out
         have hlen:ms1.length = ms6.length + 2:=by rw [hmc]; simp
         have hml:=HML.out
         clear hfin hmc
         refine HM.out.mono ?_
         rintro e' w6 ⟨hg6,rfl,hst6⟩
         have hs7:=hg6.size
         have HZ6:Hid (BlkAt w6 w.heap.size 29 zeroCs):=HZ5.out.grown hg6 (by intro e; cases e; omega)
         have HG6:Hid (w.grownBy w6 (some r)):=HG5.out.trans hg6
         have HI6:Hid (MemsOwn w6 (mb + 1) (.slice (some ⟨g',0,none⟩) (xs.length + 1) cp') (xs ++ [⟨nm,⟨xk,xn,xt,xa,xl,xc,xb,xm,xe⟩,V⟩])):=HI5.out.kept (by omega) hg6
         have HSe6:Hid (SeenAt w6 mb (xs ++ [(⟨nm,⟨xk,xn,xt,xa,xl,xc,xb,xm,xe⟩,V⟩:XM)]).length ((xs ++ [(⟨nm,⟨xk,xn,xt,xa,xl,xc,xb,xm,xe⟩,V⟩:XM)]).map XM.mem)):=by
          rw [List.length_append,List.length_singleton]
          exact HSe5.out.kept hg6 (by intro e; cases e; omega)
         have HST:=Lib.hid hst6
         clear hst6
         go_wp2_with fail
         go_roundg ms6.length
         case rel => exact ⟨m6,ms6,c1,xs ++ [⟨nm,⟨xk,xn,xt,xa,xl,xc,xb,xm,xe⟩,V⟩],_,_,_,f',rfl,rfl,by omega,by rw [List.length_append,List.length_singleton]; omega,hcnt2,by omega,HST,HZ6,HSe6,HI6,HN5,HG6,by rw [List.map_append]; exact HFIN⟩
         case measure => omega
end
end Go.Proofs.YtaloajeldimpnaaGreatDoor
