/- An argument that is a slice of small numbers. -/
import Derived.Test.YtgmngkbocpadaaaBase
import Derived.Test.YtgmngkbocpadaaaBigQ
import Derived.Test.YtgmngkbocpadaaaRw
import Derived.Test.YtgmngkbocpadaaaStB
import Derived.Test.YtgmngkbocpadaaaOpenRw
import Derived.Test.YtgmngkbocpadaaaLawMore
import Derived.Test.YtgmngkbocpadaaaProg
import Derived.Test.YtgmngkbocpadaaaShelf
import Derived.WalkKit
import Derived.WalkSpells
import Derived.WalkLawsBesides
import Derived.Handy
import Derived.Lib.Hide
import Derived.Lib.Strings
import Derived.Lib.Builder
import Derived.BigQuiet
import Derived.OwnWalk
import Derived.Laws.BitsLemmas
import Derived.WalkSmall
import Derived.Deep.QuietTactic
import Derived.StillTailTactics
import Derived.Maps.AppendAt
import Derived.IntWalk
import Derived.Deep.RegionHeld3
import Derived.Deep.DeepFit
import Derived.Deep.LoopGhost
import Derived.Deep.DeepCutAuto
import Derived.Lib.ItoaNum
import Derived.Lib.Repeat
import Derived.Lib.AppendIntMem
import Derived.Sort.OwnSorted
import Derived.Shelf.Strings.SlTrimAscii
import Derived.Lib.ConvBytes
import Derived.Lib.CutLaws
import Derived.Deep.Slices
import Derived.Deep.Fields
import Derived.ChangeSame
namespace Go.Proofs.Ytgmngkbocpadaaa
open Go.RowKit Go.WideShapes Go.ChangeShapes Go.Deep

theorem cellsOf_u16 : Try.prog.cellsOf 50 = 1 := by kernel_rfl
theorem trod_u16 {H : Type} {enc : TypeId × Value → H} {w : World} {spare : Nat → Bool} {held : Bool} {n : Nat} {cs : List Value} {y : DataW H × List MemPlace} (h : DataW.trod enc Try.prog w 0 spare held n 50 cs = some y) :
    ∃ x : U16, cs = El.cells x ∧ El.ok w.heap.size w x := by
  obtain ⟨m, rfl, -, hw⟩ := DataW.trod_int Try.underlying50 h
  have h0 : (decide ((0 : Int) ≤ m) && decide (m ≤ 65535)) = true := hw
  rw [Bool.and_eq_true, decide_eq_true_eq, decide_eq_true_eq] at h0
  exact ⟨⟨m⟩, rfl, h0⟩
theorem open_u16s {H : Type} {enc : TypeId × Value → H} {w : World} {spare : Nat → Bool} {held : Bool} {v : Value} {d : DataW H} {p : List MemPlace}
    (hv : Value.okWide Try.prog w .any 0 46 v) (h : DataW.Trod enc Try.prog w 0 spare held 46 v d p) : ∃ (a : Option Addr) (n c : Nat) (l : List U16), v = .slice a n c ∧ n ≤ 9223372036854775807 ∧ RdU w.heap.size w a n c l :=
  open_rdl (α := U16) Try.underlying46 cellsOf_u16 (by decide) (fun _ _ _ h => trod_u16 h) hv h
end Go.Proofs.Ytgmngkbocpadaaa
