/- The sizes of results: how many digits sums, products .. of fractions have. -/
import Derived.Test.YtcfmakpckdicjaaGreatDoorBigB
import Derived.Test.YtcfmakpckdicjaaGreatDoorBigD
import Derived.Test.YtcfmakpckdicjaaGreatDoorBigQ
import Derived.Test.YtcfmakpckdicjaaGreatDoorFracA
import Derived.Test.YtcfmakpckdicjaaGreatDoorRefE
import Derived.Test.YtcfmakpckdicjaaGreatDoorProg
import Derived.WalkKit
import Derived.WalkSpells
import Derived.WalkLawsBesides
import Derived.Handy
import Derived.Lib.Hide
import Derived.Lib.Strings
import Derived.Lib.Builder
import Derived.BigQuiet
import Derived.OwnWalk
import Derived.Laws.BitsLemmas
import Derived.WalkSmall
import Derived.Deep.QuietTactic
import Derived.StillTailTactics
import Derived.Maps.AppendAt
import Derived.IntWalk
import Derived.Deep.RegionHeld3
import Derived.Deep.DeepFit
import Derived.Deep.LoopGhost
import Derived.Deep.DeepCutAuto
namespace Go.Proofs.YtcfmakpckdicjaaGreatDoor
open Go.RowKit

theorem Fz.int {x : Int} {n : Nat} (h : Sz x n) (h1 : 1 ≤ n) : Fz (x : Rat) n := ⟨h, by
 show Sz 1 n
 exact Sz.mono (n := 1) (by unfold Sz; decide) h1⟩
theorem Fz.int64 {x : Int} (h : -9223372036854775808 ≤ x ∧ x ≤ 9223372036854775807) : Fz (x : Rat) 4 := Fz.int (sz_int (n := 0) h) (by omega)
theorem Fz.add {q r : Rat} {n m : Nat} (h : Fz q n) (h' : Fz r m) : Fz (q + r) (n + m + 1) := by
 rw [← add_parts]
 refine new_size (Int.mul_pos (de_pos _) (de_pos _)) ?_ ((h.2.mul h'.2).mono (by omega))
 exact Sz.add (h.1.mul h'.2) ((h'.1.mul h.2).mono (by omega))
theorem nu_neg (q : Rat) : nu (-q) = -nu q := by unfold nu; rfl
theorem de_neg (q : Rat) : de (-q) = de q := by unfold de; rfl
theorem Fz.neg {q : Rat} {n : Nat} (h : Fz q n) : Fz (-q) n := ⟨by rw [nu_neg]; exact h.1.neg, by rw [de_neg]; exact h.2⟩
theorem Fz.sub {q r : Rat} {n m : Nat} (h : Fz q n) (h' : Fz r m) : Fz (q - r) (n + m + 1) := by rw [Rat.sub_eq_add_neg]; exact h.add h'.neg
theorem mul_parts (q r : Rat) : Rat.divInt (nu q * nu r) (de q * de r) = q * r := by
 conv => rhs; rw [← divInt_parts q, ← divInt_parts r]
 rw [Rat.divInt_mul_divInt]
theorem Fz.mul {q r : Rat} {n m : Nat} (h : Fz q n) (h' : Fz r m) : Fz (q * r) (n + m) := by
 rw [← mul_parts]
 exact new_size (Int.mul_pos (de_pos _) (de_pos _)) (h.1.mul h'.1) (h.2.mul h'.2)
/-- The parts of a result that may be missing. -/
def oN : Option Rat → Int | none => 0 | some q => nu q
def oD : Option Rat → Int | none => 0 | some q => de q
end Go.Proofs.YtcfmakpckdicjaaGreatDoor
