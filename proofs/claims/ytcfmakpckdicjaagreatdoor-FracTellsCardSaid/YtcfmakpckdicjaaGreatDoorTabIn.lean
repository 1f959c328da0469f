/- The laid table of powers of ten, out of a row's condition; a world in which tables are laid. -/
import Derived.Test.YtcfmakpckdicjaaGreatDoorBigRead
import Derived.Test.YtcfmakpckdicjaaGreatDoorProg
import Derived.Test.YtcfmakpckdicjaaGreatDoorShelf
import Derived.Test.YtcfmakpckdicjaaGreatDoorRows
import Derived.WalkKit
import Derived.WalkSpells
import Derived.WalkLawsBesides
import Derived.Handy
import Derived.Lib.Hide
import Derived.Lib.Strings
import Derived.Lib.Builder
import Derived.BigQuiet
import Derived.OwnWalk
import Derived.Laws.BitsLemmas
import Derived.WalkSmall
import Derived.Deep.QuietTactic
import Derived.StillTailTactics
import Derived.Maps.AppendAt
import Derived.IntWalk
import Derived.Deep.RegionHeld3
import Derived.Deep.DeepFit
import Derived.Deep.LoopGhost
import Derived.Deep.DeepCutAuto
import Derived.Lib.ItoaNum
import Derived.Lib.Repeat
import Derived.Lib.AppendIntMem
import Derived.Sort.OwnSorted
import Derived.Lib.LaidTab
namespace Go.Proofs.YtcfmakpckdicjaaGreatDoor
open Go.ChangeShapes Go.WideShapes Go.ChangeAt Go.RowKit

theorem gTab : Tryz.prog.globalNamed "internal/strconv.uint64pow10" = some 3 := by kernel_rfl
theorem gTabType : (Tryz.prog.globals[3]?).map (·.type) = some 143 := by kernel_rfl
theorem cellsTab : Tryz.prog.cellsOf 143 = 20 := by kernel_rfl
theorem cellsU64 : Tryz.prog.cellsOf 67 = 1 := by kernel_rfl
theorem laid_pow : (Rows.laid_internal_strconv_uint64pow10 : DataW Unit) = Lib.tabData .u64 Lib.pow10Tab := by rfl
theorem tab_of_vars {W : World} {rest : List (String × DataW Unit)} {ps : List MemPlace} (h : DataW.LaidVars Tryz.prog W (("internal/strconv.uint64pow10", Rows.laid_internal_strconv_uint64pow10) :: rest) ps) : Tab W := by
 rw [laid_pow] at h
 obtain ⟨g', t', cs, fuel, p, q, hg', ht', hvar, hd, _, _⟩ := h
 obtain rfl := Option.some.inj (gTab.symm.trans hg')
 obtain rfl := Option.some.inj (gTabType.symm.trans ht')
 unfold Tab Lib.TabIs
 rw [hvar, ← Lib.cells_of_tab Tryz.underlying143 Tryz.underlying67 cellsU64 cellsTab hd]
def flat1 : DataW Unit → List Value
 | .lit (.int k z) => [.int k z]
 | _ => []
def flat2 : DataW Unit → List Value
 | .agg l => l.flatMap flat1
 | d => flat1 d
/-- The cells of a laid table. -/
def cellsD : DataW Unit → List Value
 | .agg l => l.flatMap flat2
 | _ => []
def setCells_ (l : List Value) : Obj → Obj
 | .cells _ t fr => .cells l.toArray t fr
 | o => o
end Go.Proofs.YtcfmakpckdicjaaGreatDoor
