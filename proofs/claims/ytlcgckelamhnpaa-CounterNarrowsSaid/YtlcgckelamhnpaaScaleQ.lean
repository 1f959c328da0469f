/- The walk of ScaleOthers: whatever the arguments, it returns true. -/
import Derived.Test.YtlcgckelamhnpaaScaleE
import Derived.Test.YtlcgckelamhnpaaScaleI
import Derived.Test.YtlcgckelamhnpaaProg
import Derived.WalkKit
import Derived.WalkSpells
import Derived.WalkLawsBesides
import Derived.Handy
import Derived.Lib.Hide
import Derived.Lib.Strings
import Derived.Lib.Builder
import Derived.BigQuiet
import Derived.OwnWalk
import Derived.Laws.BitsLemmas
import Derived.WalkSmall
import Derived.Deep.QuietTactic
import Derived.StillTailTactics
import Derived.Maps.AppendAt
import Derived.IntWalk
import Derived.Deep.RegionHeld3
import Derived.Deep.DeepFit
import Derived.Deep.LoopGhost
import Derived.Deep.DeepCutAuto
import Derived.ArgAppend
namespace Go.Proofs.Ytlcgckelamhnpaa
open Go.RowKit
variable {G : Nat}

/-- The certificate in force, itself. -/
def bestC (cs : List Ct) (sc day : Int) : Option Ct := match findC cs sc day with | none => none | some g => cs[g]?
theorem ivl_best (cs : List Ct) (rs : List Rc) (sc rd day : Int) : ivl cs rs sc rd day = match bestC cs sc day with | none => none | some c => if recalledB rs sc day = true then none else if inR rd 0 1099511627776 = true then some (loQ (errQ c rd day) rd, hiQ (errQ c rd day) rd) else none := by
 unfold ivl bestC
 cases findC cs sc day with
 | none => rfl
 | some g => rfl
/-- One more recall. -/
theorem recalled_more (rs : List Rc) (x : Rc) (sc day : Int) : recalledB (rs ++ [x]) sc day = (recalledB rs sc day || recB sc day x) := by
 unfold recalledB; simp
theorem ivl_stop {cs : List Ct} {rs : List Rc} {x : Rc} {sc rd day : Int} (h : recB sc day x = true) : ivl cs (rs ++ [x]) sc rd day = none := by
 rw [ivl_best, recalled_more, h, Bool.or_true]
 cases bestC cs sc day <;> rfl
theorem ivl_go {cs : List Ct} {rs : List Rc} {x : Rc} {sc rd day : Int} (h : recB sc day x = false) : ivl cs (rs ++ [x]) sc rd day = ivl cs rs sc rd day := by
 rw [ivl_best, ivl_best, recalled_more, h, Bool.or_false]
end Go.Proofs.Ytlcgckelamhnpaa
