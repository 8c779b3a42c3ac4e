/-
  The walk of the law ReadMay.
-/
import Derived.Test.YtngebebhaehmnaaGreatDoorReadAwake
import Derived.Test.YtngebebhaehmnaaGreatDoorReadMayP
import Derived.Test.YtngebebhaehmnaaGreatDoorValRef3
import Derived.IntWalk
namespace Go.Proofs.YtngebebhaehmnaaGreatDoor
open Go.RowKit

def noV : JV := .mk 0 0 ⟨#[]⟩ [] []
theorem valAt_no (w : World) : ValAt w noV zeroV := valAt_leaf w 0 0 ⟨#[]⟩ (by decide) (by decide) (by decide) (by decide) (by decide)
end Go.Proofs.YtngebebhaehmnaaGreatDoor
