/- Words for printed walks: what is known of a world, kept as it grows; the cells of a box. -/
import Derived.Test.YtckgmilmhofekaaGreatDoorProg
import Derived.WalkKit
import Derived.WalkSpells
import Derived.WalkLawsBesides
import Derived.Handy
import Derived.Lib.Hide
import Derived.Lib.Strings
import Derived.Lib.Builder
import Derived.BigQuiet
import Derived.OwnWalk
import Derived.Laws.BitsLemmas
import Derived.WalkSmall
import Derived.Deep.QuietTactic
import Derived.StillTailTactics
import Derived.Maps.AppendAt
import Derived.IntWalk
import Derived.Deep.RegionHeld3
import Derived.Deep.DeepFit
import Derived.Deep.LoopGhost
namespace Go.Proofs.YtckgmilmhofekaaGreatDoor
open Go.RowKit
variable {G : Nat}

theorem below_drew (w : World) : Below w.heap.size w w.drew := (Below.refl _ _).drew
theorem J1 {a0 r : Prop} (M : Hid (a0 ∧ r)) : r := M.out.2
theorem J2 {a0 a1 r : Prop} (M : Hid (a0 ∧ a1 ∧ r)) : r := M.out.2.2
theorem J3 {a0 a1 a2 r : Prop} (M : Hid (a0 ∧ a1 ∧ a2 ∧ r)) : r := M.out.2.2.2
end Go.Proofs.YtckgmilmhofekaaGreatDoor
