/- Walks of the verifier's reference: comparing big integers. -/
import Derived.Test.YtlcgckelamhnpaaBigSpec
import Derived.Test.YtlcgckelamhnpaaBigD
import Derived.Test.YtlcgckelamhnpaaBigQ
import Derived.Test.YtlcgckelamhnpaaProg
import Derived.WalkKit
import Derived.WalkSpells
import Derived.WalkLawsBesides
import Derived.Handy
import Derived.Lib.Hide
import Derived.Lib.Strings
import Derived.Lib.Builder
import Derived.BigQuiet
import Derived.OwnWalk
import Derived.Laws.BitsLemmas
import Derived.WalkSmall
import Derived.Deep.QuietTactic
import Derived.StillTailTactics
import Derived.Maps.AppendAt
import Derived.IntWalk
import Derived.Deep.RegionHeld3
import Derived.Deep.DeepFit
import Derived.Deep.LoopGhost
namespace Go.Proofs.Ytlcgckelamhnpaa
open Go.RowKit
variable {G : Nat}

def eqZ (x y : Int) : Bool := decide (x = y)
theorem eqZ_sign {x y : Int} (h : sg x ≠ sg y) : eqZ x y = false := by rw [eqZ, decide_eq_false_iff_not]; rintro rfl; exact h rfl
theorem eqZ_len {x y : Int} (h : ln x ≠ ln y) : eqZ x y = false := by rw [eqZ, decide_eq_false_iff_not]; rintro rfl; exact h rfl
theorem eqZ_digit {x y : Int} {k : Nat} (h : (digs x.natAbs)[k]? ≠ (digs y.natAbs)[k]?) : eqZ x y = false := by rw [eqZ, decide_eq_false_iff_not]; rintro rfl; exact h rfl
theorem eqZ_true {x y : Int} (h : sg x = sg y) (h2 : digs x.natAbs = digs y.natAbs) : eqZ x y = true := by
 rw [eqZ, decide_eq_true_eq]
 have h3 := digs_inj h2
 have h4 := abs_sg x
 have h5 := abs_sg y
 rw [h4, h5, h, h3]
end Go.Proofs.Ytlcgckelamhnpaa
