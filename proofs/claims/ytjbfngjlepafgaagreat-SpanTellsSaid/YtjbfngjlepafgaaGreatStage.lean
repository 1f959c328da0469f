/- A function's statements, one behind the other: a walk may be cut into theorems, a region each. -/
import Derived.Test.YtjbfngjlepafgaaGreatProg
import Derived.WalkKit
import Derived.WalkSpells
import Derived.WalkLawsBesides
import Derived.Handy
import Derived.Lib.Hide
import Derived.Lib.Strings
import Derived.Lib.Builder
import Derived.BigQuiet
import Derived.OwnWalk
import Derived.Laws.BitsLemmas
import Derived.WalkSmall
import Derived.Deep.QuietTactic
import Derived.StillTailTactics
import Derived.Maps.AppendAt
import Derived.IntWalk
import Derived.Deep.RegionHeld3
import Derived.Deep.DeepFit
import Derived.Deep.LoopGhost
namespace Go.Proofs.YtjbfngjlepafgaaGreat
open Go.RowKit

/-- The region of this number in a sequence, and what follows it. -/
def partAt (k : Nat) : Code → Option (Code × Code)
 | .seq a b => match a with
  | .region id _ _ => if id = k then some (a, b) else partAt k b
  | _ => partAt k b
 | .scope c => partAt k c
 | _ => none
noncomputable def regAt (f : Func) (k : Nat) : Code := ((f.body.bind (partAt k)).getD (.skip, .skip)).1
noncomputable def restAt (f : Func) (k : Nat) : Code := ((f.body.bind (partAt k)).getD (.skip, .skip)).2
end Go.Proofs.YtjbfngjlepafgaaGreat
