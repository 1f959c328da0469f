/- The figures with a key. -/
import Derived.Test.YtjbfngjlepafgaaGreatBigK
import Derived.Test.YtjbfngjlepafgaaGreatBigQ
import Derived.Test.YtjbfngjlepafgaaGreatFracA
import Derived.Test.YtjbfngjlepafgaaGreatAw
import Derived.Test.YtjbfngjlepafgaaGreatFq
import Derived.Test.YtjbfngjlepafgaaGreatOwn
import Derived.Test.YtjbfngjlepafgaaGreatReA
import Derived.Test.YtjbfngjlepafgaaGreatProg
import Derived.Test.YtjbfngjlepafgaaGreatShelf
import Derived.WalkKit
import Derived.WalkSpells
import Derived.WalkLawsBesides
import Derived.Handy
import Derived.Lib.Hide
import Derived.Lib.Strings
import Derived.Lib.Builder
import Derived.BigQuiet
import Derived.OwnWalk
import Derived.Laws.BitsLemmas
import Derived.WalkSmall
import Derived.Deep.QuietTactic
import Derived.StillTailTactics
import Derived.Maps.AppendAt
import Derived.IntWalk
import Derived.Deep.RegionHeld3
import Derived.Deep.DeepFit
import Derived.Deep.LoopGhost
import Derived.Deep.DeepCutAuto
import Derived.Lib.ItoaNum
import Derived.Lib.Repeat
import Derived.Lib.AppendIntMem
import Derived.Sort.OwnSorted
import Derived.Shelf.Strings.SlTrimAscii
import Derived.Lib.ConvBytes
import Derived.Lib.CutLaws
import Derived.Maps.Own
import Derived.Maps.Views
import Derived.Maps.OwnOps
namespace Go.Proofs.YtjbfngjlepafgaaGreat
open Go.RowKit Go.Lib
variable {G : Nat}

theorem RdL.oks {α : Type} [El α] {w : World} {a : Option Addr} {n c : Nat} {l : List α} (h : RdL G w a n c l) : ∀ x ∈ l, El.ok G w x := by
  intro x hx
  rcases h.cases with ⟨rfl, rfl⟩ | ⟨b, off, rfl, h0, hl, hc, hb⟩
  · cases hx
  · exact hb.oks x hx
end Go.Proofs.YtjbfngjlepafgaaGreat
namespace Go.Proofs.YtjbfngjlepafgaaGreat
open Go.RowKit Go.Lib
variable {G : Nat}

theorem OwV.no {α : Type} [El α] {w : World} {B : Nat} {v : Value} {l : List α} (h : OwV G B w v l) : v.ownBlock ≠ some w.heap.size := by
  rcases own_block h.own with h2 | ⟨g', cur, h2, -, h3⟩
  · rw [h2]; simp
  · rw [h2]; have := h3.lt; simp; omega
theorem OwV.far_no {α : Type} [El α] {w w' : World} {B g : Nat} {v : Value} {l : List α} {T' : TypeId} {ys : Array Value} (h : OwV G B w v l) (k : Bx w g T' ys) (hn : v.ownBlock ≠ some g) (hT : (El.deep α).contains T' = false) (hG : G ≤ g) (hg : w.grownBy w' (some g)) : OwV G B w' v l := by
  refine ⟨h.leG, h.own.kept hg ?_, fun x hx => El.far (h.oks x hx) k hT hG hg⟩
  rcases own_block h.own with h2 | ⟨g', cur, h2, -, h3⟩
  · exact .inl h2
  · exact .inr hn
end Go.Proofs.YtjbfngjlepafgaaGreat
