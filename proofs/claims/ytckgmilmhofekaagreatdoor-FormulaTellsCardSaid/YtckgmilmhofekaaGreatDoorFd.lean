/- Two integers in memory that are a fraction's parts. -/
import Derived.Test.YtckgmilmhofekaaGreatDoorBase
import Derived.Test.YtckgmilmhofekaaGreatDoorBigSpec
import Derived.Test.YtckgmilmhofekaaGreatDoorBigD
import Derived.Test.YtckgmilmhofekaaGreatDoorBigQ
import Derived.Test.YtckgmilmhofekaaGreatDoorProg
import Derived.WalkKit
import Derived.WalkSpells
import Derived.WalkLawsBesides
import Derived.Handy
import Derived.Lib.Hide
import Derived.Lib.Strings
import Derived.Lib.Builder
import Derived.BigQuiet
import Derived.OwnWalk
import Derived.Laws.BitsLemmas
import Derived.WalkSmall
import Derived.Deep.QuietTactic
import Derived.StillTailTactics
import Derived.Maps.AppendAt
import Derived.IntWalk
import Derived.Deep.RegionHeld3
import Derived.Deep.DeepFit
import Derived.Deep.LoopGhost
namespace Go.Proofs.YtckgmilmhofekaaGreatDoor
open Go.RowKit
variable {G : Nat}

open Rat in
/-- The two parts of a fraction. -/
def nu (q : Rat) : Int := q.num
def de (q : Rat) : Int := (q.den : Int)
/-- Two slices read as a fraction's parts. -/
structure FD (G : Nat) (w : World) (a : Option Addr) (c : Nat) (b : Option Addr) (d : Nat) (q : Rat) : Prop where
 n : BD G w a c (nu q)
 d : BD G w b d (de q)
theorem FD.keep {w w' : World} {a b : Option Addr} {c d : Nat} {q : Rat} (h : FD G w a c b d q) (hb : Below w.heap.size w w') : FD G w' a c b d q := ⟨h.n.keep hb, h.d.keep hb⟩
end Go.Proofs.YtckgmilmhofekaaGreatDoor
