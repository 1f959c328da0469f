/- The differences of a figure. -/
import Derived.Test.YtjbfngjlepafgaaGreatBase
import Derived.Test.YtjbfngjlepafgaaGreatBigSpec
import Derived.Test.YtjbfngjlepafgaaGreatBigB
import Derived.Test.YtjbfngjlepafgaaGreatBigD
import Derived.Test.YtjbfngjlepafgaaGreatBigL
import Derived.Test.YtjbfngjlepafgaaGreatBigQ
import Derived.Test.YtjbfngjlepafgaaGreatFracA
import Derived.Test.YtjbfngjlepafgaaGreatRefJ
import Derived.Test.YtjbfngjlepafgaaGreatFz
import Derived.Test.YtjbfngjlepafgaaGreatAw
import Derived.Test.YtjbfngjlepafgaaGreatRefO
import Derived.Test.YtjbfngjlepafgaaGreatFq
import Derived.Test.YtjbfngjlepafgaaGreatRefY
import Derived.Test.YtjbfngjlepafgaaGreatOwn
import Derived.Test.YtjbfngjlepafgaaGreatReA
import Derived.Test.YtjbfngjlepafgaaGreatProg
import Derived.Test.YtjbfngjlepafgaaGreatShelf
import Derived.WalkKit
import Derived.WalkSpells
import Derived.WalkLawsBesides
import Derived.Handy
import Derived.Lib.Hide
import Derived.Lib.Strings
import Derived.Lib.Builder
import Derived.BigQuiet
import Derived.OwnWalk
import Derived.Laws.BitsLemmas
import Derived.WalkSmall
import Derived.Deep.QuietTactic
import Derived.StillTailTactics
import Derived.Maps.AppendAt
import Derived.IntWalk
import Derived.Deep.RegionHeld3
import Derived.Deep.DeepFit
import Derived.Deep.LoopGhost
import Derived.Deep.DeepCutAuto
import Derived.Lib.ItoaNum
import Derived.Lib.Repeat
import Derived.Lib.AppendIntMem
import Derived.Sort.OwnSorted
import Derived.Shelf.Strings.SlTrimAscii
import Derived.Lib.ConvBytes
import Derived.Lib.CutLaws
import Derived.Maps.Own
import Derived.Maps.Views
import Derived.Maps.OwnOps
import Derived.RangeFuncNested
import Derived.RangeFuncBound
import Derived.RangeFuncCalls
import Derived.RangeFuncLeaves
import Derived.Shelf.Abstract
import Derived.Shelf.RegionOpen
import Derived.OwnWalkIn
import Derived.TacticsInMore
import Derived.LoopNIn
import Derived.LoopIn
namespace Go.Proofs.YtjbfngjlepafgaaGreat
open Go.RowKit Go.Lib Go.Shelf
variable {G : Nat}
attribute [local go_sem] Oper.semAt_some

theorem BD.own {w w' : World} {row : Option Nat} {a : Option Addr} {c : Nat} {z : Int} (h : BD G w a c z) (hg : w.grownBy w' row) (hr : ∀ r, row = some r → ∃ o : Obj, w.heap[r]? = some o ∧ o.isCells = false) : BD G w' a c z := by
  cases row with
  | none => exact h.keep (below_none_ hg)
  | some g =>
    rcases Nat.eq_zero_or_pos (ln z) with h0 | h0
    · exact ⟨⟨a, c, by rw [ints_len]; rfl, fun j hj => by rw [ints_len] at hj; unfold ln at h0; omega⟩, h.le, .inl h0⟩
    · refine h.other hg fun b off ha hb => ?_
      subst hb
      obtain ⟨b', off', ha', hlt, hc⟩ := RdN.at h.rd (k := 0) h0
      rw [ha] at ha'
      cases ha'
      obtain ⟨o, ho, hc1⟩ := hr b rfl
      obtain ⟨o2, ho2, hc2⟩ := cells_of_cell hc
      rw [ho] at ho2
      cases ho2
      rw [hc1] at hc2
      cases hc2
theorem FQ.own {w w' : World} {row : Option Nat} {u0 u1 u2 u3 : Value} {q : Rat} (h : FQ G w u0 u1 u2 u3 q) (hg : w.grownBy w' row) (hr : ∀ r, row = some r → ∃ o : Obj, w.heap[r]? = some o ∧ o.isCells = false) : FQ G w' u0 u1 u2 u3 q := by
 obtain ⟨a, c, b, d, h0, h1, h2, h3, h4, h5⟩ := h
 exact ⟨a, c, b, d, h0, h1, h2, h3, h4.own hg hr, h5.own hg hr⟩
theorem Bx.own {w w' : World} {row : Option Nat} {g : Nat} {T : TypeId} {cs : Array Value} (h : Bx w g T cs) (hg : w.grownBy w' row) (hr : ∀ r, row = some r → ∃ o : Obj, w.heap[r]? = some o ∧ o.isCells = false) : Bx w' g T cs := by
 unfold Bx at h ⊢
 refine (hg.block g (lt_of_block h) ?_).trans h
 intro he
 obtain ⟨o, ho, hc⟩ := hr g he.symm
 rw [h] at ho
 cases ho
 cases hc
end Go.Proofs.YtjbfngjlepafgaaGreat
namespace Go.Proofs.YtjbfngjlepafgaaGreat
open Go.RowKit Go.Lib
variable {G : Nat}

/-! ### Two own slices of fractions -/
theorem elemFr : ElemT Tryz.prog 51 26 (.agg #[.int .i64 0, .slice none 0 0, .int .i64 0, .slice none 0 0]) 4 64 := ⟨Tryz.underlying51, by kernel_rfl, rfl, by decide⟩
/-! ### Differences -/
end Go.Proofs.YtjbfngjlepafgaaGreat
