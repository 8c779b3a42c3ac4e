/-
 From what a row lists of the package-level variables to what the walks ask of them; and a world in which they lie as the program lays them.
-/
import Derived.Test.YtaloajeldimpnaaGreatDoorValA
import Derived.Test.YtaloajeldimpnaaGreatDoorCards
import Derived.Test.YtaloajeldimpnaaGreatDoorTie
import Derived.ProofKit
import Derived.OpenShut
import Derived.ShutString
import Derived.LaidMore
import Derived.LaidSub
import Derived.Stop.LaidErr
import Derived.Deep.DeepHandedRow
import Derived.Deep.DeepWitnessRowRef
namespace Go.Proofs.YtaloajeldimpnaaGreatDoor
open Go.ChangeShapes Go.WideShapes Go.ChangeAt Go.RowKit
theorem own:ownKnob Tryz.prog.godebug = none:=by kernel_rfl
theorem tPow:(Tryz.prog.globals[3]?).map (·.type) = some 256:=by kernel_rfl
theorem cells20:Tryz.prog.cellsOf 256 = 20:=by kernel_rfl
theorem cells1:Tryz.prog.cellsOf 147 = 1:=by kernel_rfl
theorem var_big {w:World} {n:String} {g:Nat} {cs:Array Value} (hg:Tryz.prog.globalNamed n = some g) (h:w.var? Tryz.prog n = some cs):g < w.heap.size:=by
 unfold World.var? at h
 simp only [hg,Option.bind_some] at h
 by_cases hlt:g < w.heap.size
 ·exact hlt
 ·rw [Array.getElem?_eq_none (by omega)] at h; cases h
theorem tabEnv_of {l:List (String × DataW Unit)} {W:World} (h:laidMetH Tryz.prog l W) (e:l.filter (fun x => x.1 == "internal/strconv.uint64pow10") = [("internal/strconv.uint64pow10",Lib.tabData .u64 Lib.pow10Tab)]):TabEnv W:=by
 have h1:=laidMetH.filter (fun x => x.1 == "internal/strconv.uint64pow10") h
 rw [e] at h1
 have h2:Lib.TabIs Tryz.prog W "internal/strconv.uint64pow10" .u64 Lib.pow10Tab:=Lib.tabIs_of_head (rest:=[]) gPow tPow Tryz.underlying256 Tryz.underlying147 cells1 cells20 h1
 exact ⟨h2,var_big gPow h2⟩
theorem tRange:(Tryz.prog.globals[2]?).map (·.type) = some 200:=by kernel_rfl
theorem cellsS:Tryz.prog.cellsOf 245 = 1:=by kernel_rfl
theorem cellsT:Tryz.prog.cellsOf 9 = 1:=by kernel_rfl
theorem star: "*" ++ "errors.errorString" = "*errors.errorString":=by decide
theorem rowE (u:TypeId) (h:Tryz.prog.typeName? 3 u = some "*errors.errorString"):u = 243 :=
 typeName_ptr_named (nm := "errors.errorString") (by rw [star]; kernel_rfl) (by kernel_rfl) (by decide) u (by rw [star]; exact h)
theorem numEnv_of {l:List (String × DataW Unit)} {W:World} (h:laidMetH Tryz.prog l W) (e:l.filter (fun x => x.1 == "internal/strconv.uint64pow10") = [("internal/strconv.uint64pow10",Lib.tabData .u64 Lib.pow10Tab)])
 (e2:l.filter (fun x => x.1 == "strconv.ErrRange") = [("strconv.ErrRange",.iface "*errors.errorString" (.ptr (.agg [.lit (.string [118,97,108,117,101,32,111,117,116,32,111,102,32,114,97,110,103,101])])))]):NumEnv W:=by
 have h1:=laidMetH.filter (fun x => x.1 == "strconv.ErrRange") h
 rw [e2] at h1
 obtain ⟨a0,s0,hv0,-,-,-⟩:=laid_sentinel h1 gRange tRange Tryz.underlying200 rowE Tryz.underlying243 Tryz.underlying245 rfl rfl Tryz.underlying9 cellsS cellsT
 exact ⟨tabEnv_of h e,⟨_,_,hv0⟩,var_big gRange hv0⟩
end Go.Proofs.YtaloajeldimpnaaGreatDoor
