/- A function's statements, one behind the other: a walk may be cut into theorems, a region each. -/
import Derived.Test.YtcfmakpckdicjaaGreatDoorAw
namespace Go.Proofs.YtcfmakpckdicjaaGreatDoor
open Go.RowKit

/-- The region of this number in a sequence, and what follows it. -/
def partAt (k : Nat) : Code → Option (Code × Code)
  | .seq a b => match a with
    | .region id _ _ => if id = k then some (a, b) else partAt k b
    | _ => partAt k b
  | .scope c => partAt k c
  | _ => none
noncomputable def regAt (f : Func) (k : Nat) : Code := ((f.body.bind (partAt k)).getD (.skip, .skip)).1
noncomputable def restAt (f : Func) (k : Nat) : Code := ((f.body.bind (partAt k)).getD (.skip, .skip)).2
end Go.Proofs.YtcfmakpckdicjaaGreatDoor
