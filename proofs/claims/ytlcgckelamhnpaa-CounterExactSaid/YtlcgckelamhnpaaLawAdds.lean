/- CounterAdds: whatever the arguments, it returns true. -/
import Derived.Test.YtlcgckelamhnpaaCtLaws
import Derived.Test.YtlcgckelamhnpaaProg
import Derived.Test.YtlcgckelamhnpaaShelf
import Derived.WalkKit
import Derived.WalkSpells
import Derived.WalkLawsBesides
import Derived.Handy
import Derived.Lib.Hide
import Derived.Lib.Strings
import Derived.Lib.Builder
import Derived.BigQuiet
import Derived.OwnWalk
import Derived.Laws.BitsLemmas
import Derived.WalkSmall
import Derived.Deep.QuietTactic
import Derived.StillTailTactics
import Derived.Maps.AppendAt
import Derived.IntWalk
import Derived.Deep.RegionHeld3
import Derived.Deep.DeepFit
import Derived.Deep.LoopGhost
import Derived.Deep.DeepCutAuto
import Derived.Lib.ItoaNum
import Derived.Lib.Repeat
import Derived.Lib.AppendIntMem
import Derived.Sort.OwnSorted
import Derived.Shelf.Strings.SlTrimAscii
import Derived.Lib.ConvBytes
import Derived.Lib.CutLaws
import Derived.Shelf.Strings.Builder1
import Derived.ArgAppend
namespace Go.Proofs.Ytlcgckelamhnpaa
open Go.RowKit Go.Lib
variable {G : Nat}

theorem betw_ord {iv : Iv} (hv : IvOk iv) {nb big : Bool} {ms : List Mt} {rs : List Rg} {a b : Int} {x : Rat × Rat} (h : betw iv nb big ms rs a b = (0, some x)) : 0 ≤ x.1 ∧ x.1 ≤ x.2 := by
 obtain ⟨hc, hd, x', hx, e⟩ := betw_zero (show (betw iv nb big ms rs a b).1 = 0 by rw [h])
 rw [h] at e; cases e
 exact btw_nn (fun i hi y k => piece_nn ((possA_iff hv).1 (check_zero.1 hc).2 i hi) (marks_ok hv ms rs i) k) hx
theorem betw_cases (iv : Iv) (nb big : Bool) (ms : List Mt) (rs : List Rg) (a b : Int) : (∃ x y, betw iv nb big ms rs a b = (0, some (x, y))) ∨ ∃ e, betw iv nb big ms rs a b = (e, none) ∧ ¬ e = 0 := by
  by_cases h : (betw iv nb big ms rs a b).1 = 0
  · obtain ⟨-, -, x, -, e⟩ := betw_zero h
    exact .inl ⟨x.1, x.2, e⟩
  · refine .inr ⟨_, ?_, h⟩
    unfold betw at *
    by_cases hc : checkE iv nb big ms rs = 0
    · rw [if_pos hc] at h ⊢
      by_cases hab : b < a
      · rw [if_pos hab]
      · rw [if_neg hab] at h ⊢
        by_cases hn : ms.length = 0 ∨ a < (ms.getD 0 ⟨0, 0, 0⟩).f ∨ (ms.getD (ms.length - 1) ⟨0, 0, 0⟩).u < b
        · rw [if_pos hn]
        · rw [if_neg hn] at h ⊢
          cases e : btw (pieceM iv ms rs a b) ms.length with
          | none => rfl
          | some x => rw [e] at h; exact absurd rfl h
    · rw [if_neg hc]
theorem b_some {X : Int × Option (Rat × Rat)} {er : Int} {o : Option (Rat × Rat)} {ol oh : Option Rat} {x y : Rat} (he : X = (er, o)) (hl : o.map Prod.fst = ol) (hh : o.map Prod.snd = oh) (h : X = (0, some (x, y))) : er = 0 ∧ ol = some x ∧ oh = some y := by
 rw [he] at h; cases h; exact ⟨rfl, hl.symm, hh.symm⟩
theorem b_none {X : Int × Option (Rat × Rat)} {er e : Int} {o : Option (Rat × Rat)} {ol oh : Option Rat} (he : X = (er, o)) (hl : o.map Prod.fst = ol) (hh : o.map Prod.snd = oh) (h : X = (e, none)) : er = e ∧ ol = none ∧ oh = none := by
 rw [he] at h; cases h; exact ⟨rfl, hl.symm, hh.symm⟩
end Go.Proofs.Ytlcgckelamhnpaa
