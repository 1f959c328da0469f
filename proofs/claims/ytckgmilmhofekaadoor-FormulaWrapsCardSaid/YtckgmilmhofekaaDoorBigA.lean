/- Walks: which big integers are right; trimming; a sign for digits. -/
import Derived.Test.YtckgmilmhofekaaDoorProg
import Derived.WalkKit
import Derived.WalkSpells
import Derived.WalkLawsBesides
import Derived.Handy
import Derived.Lib.Hide
import Derived.Lib.Strings
import Derived.Lib.Builder
import Derived.BigQuiet
namespace Go.Proofs.YtckgmilmhofekaaDoor
open Go.RowKit

def digitOk (d : Int) : Bool := decide (0 ≤ d) && decide (d ≤ 1048575)
def rightB (s : Int) (l : List Int) : Bool := l.all digitOk && (if l = [] then s == 0 else (s == 1 || s == -1) && decide (l.getLast? ≠ some 0))
end Go.Proofs.YtckgmilmhofekaaDoor
