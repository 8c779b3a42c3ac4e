/-
 legatelaw25.refused: is a text refused so?
-/
import Derived.Test.YtkphgjkflhjfjaaGreatDoorChartLb
import Derived.Test.YtkphgjkflhjfjaaGreatDoorChartB2
namespace Go.Proofs.YtkphgjkflhjfjaaGreatDoor
set_option maxRecDepth 100000
open Go.RowKit
theorem emptyMap_at (W:World):MapAt W (.agg #[.slice none 0 0,.slice none 0 0]) ⟨[],[]⟩ :=
 ⟨_,_,rfl,⟨by show 0 ≤ _; decide,none,0,rfl,fun i r hi => by simp at hi⟩,⟨by show 0 ≤ _; decide,fun a n c e => by simp only [Value.slice.injEq] at e; omega,none,0,rfl,fun i x hi => by simp at hi⟩⟩
set_option maxHeartbeats 4000000 in
theorem refused_any (t:ByteArray) (er:Int) (hr:chartT t.data.toList = .bad er) (w:World) (hz:t.size ≤ 9223372036854775807) (henv:NumEnv w) :
 Calls Tryz.prog 16 #[.string t,.int .i64 er] w fun e w' => e = .returned (.bool true) ∧ Below w.heap.size w w':=by
 have HR:=Lib.hid (awRead_bad t er hr w hz henv)
 have HS:=Lib.hid (fun Y => same25_any ⟨[],[]⟩ ⟨[],[]⟩ _ _ Y (emptyMap_at Y) (emptyMap_at Y))
 simp only [decide_true] at HS
 have e1:(er == er) = true:=by simp
 clear hr hz henv
 go_enter Tryz.func16,Tryz.ntmps16
 go_wp2_with fail
 refine HR.out.mono ?_
 rintro e w2 ⟨hb2,rfl⟩
 have hk:BlkAt (w2.alloc (.cells #[.slice none 0 0,.slice none 0 0] 25)) w2.heap.size 25 #[.slice none 0 0,.slice none 0 0]:=blkAt_newC _ _ _
 obtain ⟨p0,p1,pf⟩:=b2c hk
 have HB:=Lib.hid (bel_alloc hb2 (.cells #[.slice none 0 0,.slice none 0 0] 25))
 clear hb2 hk
 go_wp2_with fail
 refine (HS.out _).mono ?_
 rintro e w3 ⟨rfl,hb3⟩
 have HB3:=Lib.hid (below_more HB.out hb3)
 clear hb3
 go_wp2_with fail
 go_ret
 exact ⟨rfl,HB3.out⟩
end Go.Proofs.YtkphgjkflhjfjaaGreatDoor
