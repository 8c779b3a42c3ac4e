/-
 read.tokens.next: the next mark.
-/
import Derived.Test.YtchinankclckjaaGreatDoorChartA
import Derived.Test.YtchinankclckjaaGreatDoorReadP
import Derived.Test.YtchinankclckjaaGreatDoorBlk
import Derived.Deep.LoopGhost
import Derived.Deep.RegionHeld3
import Derived.RegionTactic
import Derived.Maps.AppendAt
import Derived.Maps.Range
import Derived.Deep.AppendLies
import Derived.BigQuiet
import Derived.IntWalk
namespace Go.Proofs.YtchinankclckjaaGreatDoor
set_option maxRecDepth 100000
open Go.RowKit
/-! space -/
theorem space_yes (c:UInt8) (w:World) (h:isBlank c=true) :
 Calls Tryz.prog 109 #[.int .u8 (c.toNat:Int)] w fun e w'=>e=.returned (.bool true)∧w'=w:=by
 have hb:=blank_cases h
 clear h
 rcases hb with hb | hb | hb | hb
 ·have e1:((c.toNat:Int) == 32)=true:=by rw [hb];rfl
  clear hb
  go_enter Tryz.func109,Tryz.ntmps109
  go_wp2_with fail
  go_ret
  exact ⟨rfl,rfl⟩
 ·have e1:((c.toNat:Int) == 32)=false:=by rw [hb];rfl
  have e2:((c.toNat:Int) == 9)=true:=by rw [hb];rfl
  clear hb
  go_enter Tryz.func109,Tryz.ntmps109
  go_wp2_with fail
  go_ret
  exact ⟨rfl,rfl⟩
 ·have e1:((c.toNat:Int) == 32)=false:=by rw [hb];rfl
  have e2:((c.toNat:Int) == 9)=false:=by rw [hb];rfl
  have e3:((c.toNat:Int) == 10)=true:=by rw [hb];rfl
  clear hb
  go_enter Tryz.func109,Tryz.ntmps109
  go_wp2_with fail
  go_ret
  exact ⟨rfl,rfl⟩
 ·have e1:((c.toNat:Int) == 32)=false:=by rw [hb];rfl
  have e2:((c.toNat:Int) == 9)=false:=by rw [hb];rfl
  have e3:((c.toNat:Int) == 10)=false:=by rw [hb];rfl
  have e4:((c.toNat:Int) == 13)=true:=by rw [hb];rfl
  clear hb
  go_enter Tryz.func109,Tryz.ntmps109
  go_wp2_with fail
  go_ret
  exact ⟨rfl,rfl⟩
theorem space_no (c:UInt8) (w:World) (h:isBlank c=false) :
 Calls Tryz.prog 109 #[.int .u8 (c.toNat:Int)] w fun e w'=>e=.returned (.bool false)∧w'=w:=by
 obtain ⟨h1,h2,h3,h4⟩:=blank_no h
 have e1:((c.toNat:Int) == 32)=false:=bne_u8 h1
 have e2:((c.toNat:Int) == 9)=false:=bne_u8 h2
 have e3:((c.toNat:Int) == 10)=false:=bne_u8 h3
 have e4:((c.toNat:Int) == 13)=false:=bne_u8 h4
 clear h h1 h2 h3 h4
 go_enter Tryz.func109,Tryz.ntmps109
 go_wp2_with fail
 go_ret
 exact ⟨rfl,rfl⟩
def rdCells (s:ByteArray) (pl k x z n:Int) (t:ByteArray) (af c d:Int):Array Value:=#[.string s,.int .i64 pl,.int .u8 k,.int .i64 x,.int .i64 z,.int .i64 n,.string t,.int .i64 af,.int .i64 c,.int .i64 d]
def RdAt (w:World) (r:Nat) (s:ByteArray) (pl k x z n:Int) (t:ByteArray) (af c d:Int):Prop:=BlkAt w r 122 (rdCells s pl k x z n t af c d)
theorem RdAt.cells {w:World} {r:Nat} {s:ByteArray} {pl k x z n:Int} {t:ByteArray} {af c d:Int} (h:RdAt w r s pl k x z n t af c d) :
 w.cell? ⟨r,0,none⟩=some (.string s)∧w.cell? ⟨r,1,none⟩=some (.int .i64 pl)∧w.cell? ⟨r,2,none⟩=some (.int .u8 k)∧w.cell? ⟨r,3,none⟩=some (.int .i64 x)∧w.cell? ⟨r,4,none⟩=some (.int .i64 z)∧w.cell? ⟨r,5,none⟩=some (.int .i64 n)∧w.cell? ⟨r,6,none⟩=some (.string t)∧w.cell? ⟨r,7,none⟩=some (.int .i64 af)∧w.cell? ⟨r,8,none⟩=some (.int .i64 c)∧w.cell? ⟨r,9,none⟩=some (.int .i64 d) :=
 ⟨BlkAt.cell h 0,BlkAt.cell h 1,BlkAt.cell h 2,BlkAt.cell h 3,BlkAt.cell h 4,BlkAt.cell h 5,BlkAt.cell h 6,BlkAt.cell h 7,BlkAt.cell h 8,BlkAt.cell h 9⟩
theorem RdAt.frees {w:World} {r:Nat} {s:ByteArray} {pl k x z n:Int} {t:ByteArray} {af c d:Int} (h:RdAt w r s pl k x z n t af c d):∀ i,w.frozen? ⟨r,i,none⟩=false:=fun i=>BlkAt.free h i
end Go.Proofs.YtchinankclckjaaGreatDoor
