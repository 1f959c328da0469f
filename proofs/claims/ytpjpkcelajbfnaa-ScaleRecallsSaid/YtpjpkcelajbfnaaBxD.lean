/- The cells of a box, all at once. -/
import Derived.Test.YtpjpkcelajbfnaaBigSpec
import Derived.Test.YtpjpkcelajbfnaaBigC
import Derived.Test.YtpjpkcelajbfnaaBigL
import Derived.Test.YtpjpkcelajbfnaaScaleA
import Derived.Test.YtpjpkcelajbfnaaProg
import Derived.WalkKit
import Derived.WalkSpells
import Derived.WalkLawsBesides
import Derived.Handy
import Derived.Lib.Hide
import Derived.Lib.Strings
import Derived.Lib.Builder
import Derived.BigQuiet
import Derived.OwnWalk
import Derived.Laws.BitsLemmas
import Derived.WalkSmall
import Derived.Deep.QuietTactic
import Derived.StillTailTactics
import Derived.Maps.AppendAt
import Derived.IntWalk
import Derived.Deep.RegionHeld3
import Derived.Deep.DeepFit
import Derived.Deep.LoopGhost
namespace Go.Proofs.Ytpjpkcelajbfnaa

theorem Bx.d2 {w : World} {g : Nat} {T : TypeId} {u0 u1 : Value} (h : Bx w g T #[u0, u1]) : w.cell? ⟨g, 0, none⟩ = some u0 ∧ w.cell? ⟨g, 1, none⟩ = some u1 :=
  ⟨h.at.1 0, h.at.1 1⟩
theorem Bx.d4 {w : World} {g : Nat} {T : TypeId} {u0 u1 u2 u3 : Value} (h : Bx w g T #[u0, u1, u2, u3]) : w.cell? ⟨g, 0, none⟩ = some u0 ∧ w.cell? ⟨g, 1, none⟩ = some u1 ∧ w.cell? ⟨g, 2, none⟩ = some u2 ∧ w.cell? ⟨g, 3, none⟩ = some u3 :=
  ⟨h.at.1 0, h.at.1 1, h.at.1 2, h.at.1 3⟩
theorem Bx.d6 {w : World} {g : Nat} {T : TypeId} {u0 u1 u2 u3 u4 u5 : Value} (h : Bx w g T #[u0, u1, u2, u3, u4, u5]) : w.cell? ⟨g, 0, none⟩ = some u0 ∧ w.cell? ⟨g, 1, none⟩ = some u1 ∧ w.cell? ⟨g, 2, none⟩ = some u2 ∧ w.cell? ⟨g, 3, none⟩ = some u3 ∧ w.cell? ⟨g, 4, none⟩ = some u4 ∧ w.cell? ⟨g, 5, none⟩ = some u5 :=
  ⟨h.at.1 0, h.at.1 1, h.at.1 2, h.at.1 3, h.at.1 4, h.at.1 5⟩
end Go.Proofs.Ytpjpkcelajbfnaa
