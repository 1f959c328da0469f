/- Walks of the verifier's reference: big integers. -/
import Derived.Test.YtlpcblhkddmlnaaBigSpec
import Derived.Test.YtlpcblhkddmlnaaBigB
import Derived.Test.YtlpcblhkddmlnaaBigD
import Derived.Test.YtlpcblhkddmlnaaBigL
import Derived.Test.YtlpcblhkddmlnaaBigQ
import Derived.Test.YtlpcblhkddmlnaaProg
import Derived.WalkKit
import Derived.WalkSpells
import Derived.WalkLawsBesides
import Derived.Handy
import Derived.Lib.Hide
import Derived.Lib.Strings
import Derived.Lib.Builder
import Derived.BigQuiet
import Derived.OwnWalk
import Derived.Laws.BitsLemmas
import Derived.WalkSmall
import Derived.Deep.QuietTactic
import Derived.StillTailTactics
import Derived.Maps.AppendAt
import Derived.IntWalk
import Derived.Deep.RegionHeld3
import Derived.Deep.DeepFit
import Derived.Deep.LoopGhost
import Derived.Deep.DeepCutAuto
namespace Go.Proofs.Ytlpcblhkddmlnaa
open Go.RowKit
variable {G : Nat}

theorem OwnN.le {w : World} {B : Nat} {a : Option Addr} {n c : Nat} (h : OwnN w B (.slice a (lnN n) c) (digs n)) : lnN n ≤ c := by
  rcases h.shape with ⟨h1, h2⟩ | ⟨g, cap, h1, -, -, h3⟩
  · rw [lnN, h2]; exact Nat.zero_le _
  · simp only [Value.slice.injEq] at h1
    rw [h1.2.2]; exact h3
end Go.Proofs.Ytlpcblhkddmlnaa
