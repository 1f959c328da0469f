/- An argument that is a history. -/
import Derived.Test.YtlcgckelamhnpaaBigQ
import Derived.Test.YtlcgckelamhnpaaRw
import Derived.Test.YtlcgckelamhnpaaCtL
import Derived.Test.YtlcgckelamhnpaaCtU
import Derived.Test.YtlcgckelamhnpaaOpenRw
import Derived.Test.YtlcgckelamhnpaaLawExact
import Derived.Test.YtlcgckelamhnpaaOpenSpanF
import Derived.Test.YtlcgckelamhnpaaProg
import Derived.Test.YtlcgckelamhnpaaShelf
import Derived.WalkKit
import Derived.WalkSpells
import Derived.WalkLawsBesides
import Derived.Handy
import Derived.Lib.Hide
import Derived.Lib.Strings
import Derived.Lib.Builder
import Derived.BigQuiet
import Derived.OwnWalk
import Derived.Laws.BitsLemmas
import Derived.WalkSmall
import Derived.Deep.QuietTactic
import Derived.StillTailTactics
import Derived.Maps.AppendAt
import Derived.IntWalk
import Derived.Deep.RegionHeld3
import Derived.Deep.DeepFit
import Derived.Deep.LoopGhost
import Derived.Deep.DeepCutAuto
import Derived.Lib.ItoaNum
import Derived.Lib.Repeat
import Derived.Lib.AppendIntMem
import Derived.Sort.OwnSorted
import Derived.Shelf.Strings.SlTrimAscii
import Derived.Lib.ConvBytes
import Derived.Lib.CutLaws
import Derived.Deep.Slices
import Derived.Deep.Fields
import Derived.ChangeSame
import Derived.Shelf.Strings.Builder1
import Derived.ArgAppend
namespace Go.Proofs.Ytlcgckelamhnpaa
open Go.RowKit Go.WideShapes Go.ChangeShapes Go.Deep

theorem cells4_fr : Try.prog.cellsOf 38 = 4 := by kernel_rfl
theorem cells1_fs : Try.prog.cellsOf 68 = 1 := by kernel_rfl
set_option maxRecDepth 100000 in
theorem trod_xc {H : Type} {enc : TypeId × Value → H} {w : World} {spare : Nat → Bool} {held : Bool} {n : Nat} {cs : List Value} {y : DataW H × List MemPlace}
  (h : DataW.trod enc Try.prog w 0 spare held n 38 cs = some y) : ∃ x : XC, cs = El.cells x ∧ El.ok w.heap.size w x := by
 obtain ⟨u0, u1, u2, u3, n, m, o, rfl, hx⟩ := trod_fx h
 exact ⟨⟨u0, u1, u2, u3, n, m, o⟩, rfl, XOk.of hx⟩
set_option maxRecDepth 100000 in
theorem trod_hd {H : Type} {enc : TypeId × Value → H} {w : World} {spare : Nat → Bool} {held : Bool} {n : Nat} {cs : List Value} {y : DataW H × List MemPlace}
  (h : DataW.trod enc Try.prog w 0 spare held n 68 cs = some y) : ∃ x : HdX, cs = El.cells x ∧ El.ok w.heap.size w x := by
 obtain ⟨a, n, c, l, rfl, -, hl⟩ := trod_rdl (α := XC) Try.underlying68 cells4_fr (by decide) (fun _ _ _ h => trod_xc h) h
 exact ⟨⟨a, n, c, l⟩, rfl, hl⟩
set_option maxRecDepth 100000 in
theorem open_hist {H : Type} {enc : TypeId × Value → H} {w : World} {spare : Nat → Bool} {held : Bool} {v : Value} {d : DataW H} {p : List MemPlace}
  (hv : Value.okWide Try.prog w .any 0 54 v) (h : DataW.Trod enc Try.prog w 0 spare held 54 v d p) :
  ∃ (a : Option Addr) (n c : Nat) (l : List HdX), v = .slice a n c ∧ n ≤ 9223372036854775807 ∧ RdHX w.heap.size w a n c l :=
 open_rdl (α := HdX) Try.underlying54 cells1_fs (by decide) (fun _ _ _ h => trod_hd h) hv h
end Go.Proofs.Ytlcgckelamhnpaa
