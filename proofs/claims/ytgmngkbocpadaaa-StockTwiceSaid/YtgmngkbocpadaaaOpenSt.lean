/- An argument that is a stock: its layers, right or not. -/
import Derived.Test.YtgmngkbocpadaaaBase
import Derived.Test.YtgmngkbocpadaaaBigQ
import Derived.Test.YtgmngkbocpadaaaRw
import Derived.Test.YtgmngkbocpadaaaStB
import Derived.Test.YtgmngkbocpadaaaOpenRw
import Derived.Test.YtgmngkbocpadaaaProg
import Derived.Test.YtgmngkbocpadaaaShelf
import Derived.WalkKit
import Derived.WalkSpells
import Derived.WalkLawsBesides
import Derived.Handy
import Derived.Lib.Hide
import Derived.Lib.Strings
import Derived.Lib.Builder
import Derived.BigQuiet
import Derived.Deep.Slices
import Derived.Deep.Fields
import Derived.ChangeSame
import Derived.OwnWalk
import Derived.Laws.BitsLemmas
import Derived.WalkSmall
import Derived.Deep.QuietTactic
import Derived.StillTailTactics
import Derived.Maps.AppendAt
import Derived.IntWalk
import Derived.Deep.RegionHeld3
import Derived.Deep.DeepFit
import Derived.Deep.LoopGhost
import Derived.Deep.DeepCutAuto
import Derived.Lib.ItoaNum
import Derived.Lib.Repeat
import Derived.Lib.AppendIntMem
import Derived.Sort.OwnSorted
import Derived.Shelf.Strings.SlTrimAscii
import Derived.Lib.ConvBytes
import Derived.Lib.CutLaws
namespace Go.Proofs.Ytgmngkbocpadaaa
open Go.RowKit Go.WideShapes Go.ChangeShapes Go.Deep

theorem trod_fx {H : Type} {enc : TypeId × Value → H} {w : World} {spare : Nat → Bool} {held : Bool} {n : Nat} {cs : List Value} {y : DataW H × List MemPlace} (h : DataW.trod enc Try.prog w 0 spare held n 29 cs = some y) :
    ∃ (u0 u1 u2 u3 : Value) (n m : Nat) (o : Option Rat), cs = [u0, u1, u2, u3] ∧ FX w u0 u1 u2 u3 n m o := by
  obtain ⟨s, a, c, l, t, b, d, m, e, hr⟩ := trod_frac h
  obtain ⟨o, hx⟩ := fx_of (s := s) (t := t) hr
  exact ⟨_, _, _, _, _, _, o, e, hx⟩
theorem open_fx {H : Type} {enc : TypeId × Value → H} {w : World} {spare : Nat → Bool} {held : Bool} {v : Value} {d : DataW H} {p : List MemPlace}
    (hv : Value.okWide Try.prog w .any 0 29 v) (h : DataW.Trod enc Try.prog w 0 spare held 29 v d p) :
    ∃ (u0 u1 u2 u3 : Value) (n m : Nat) (o : Option Rat), v = .agg #[u0, u1, u2, u3] ∧ FX w u0 u1 u2 u3 n m o := by
  obtain ⟨s, a, c, l, t, b, d, m, e, hr⟩ := open_frac hv h
  obtain ⟨o, hx⟩ := fx_of (s := s) (t := t) hr
  exact ⟨_, _, _, _, _, _, o, e, hx⟩
end Go.Proofs.Ytgmngkbocpadaaa
namespace Go.Proofs.Ytgmngkbocpadaaa
open Go.RowKit Go.WideShapes Go.ChangeShapes Go.Deep

theorem layerParts : ∃ f0 f1 : Field, Try.prog.underlying 48 = some (.struct #[f0, f1]) ∧ f0.type = 3 ∧ f0.offset = 0 ∧ f1.type = 29 ∧ f1.offset = 1 :=
  ⟨_, _, Try.underlying48, rfl, rfl, rfl, rfl⟩
theorem cellsOf_layer : Try.prog.cellsOf 48 = 5 := by kernel_rfl
theorem trod_layer {H : Type} {enc : TypeId × Value → H} {w : World} {spare : Nat → Bool} {held : Bool} {n : Nat} {cs : List Value} {y : DataW H × List MemPlace} (h : DataW.trod enc Try.prog w 0 spare held n 48 cs = some y) :
    ∃ x : LR, cs = El.cells x ∧ El.ok w.heap.size w x := by
  obtain ⟨f0, f1, he, t0, o0, t1, o1⟩ := layerParts
  obtain ⟨xs, n', -, -, hlen, hxl, hg⟩ := DataW.trod_struct he h
  obtain ⟨y0, g0⟩ := trod_field (j := 0) (f := f0) hg hxl rfl
  obtain ⟨y1, g1⟩ := trod_field (j := 1) (f := f1) hg hxl rfl
  rw [t0, o0, cellsOf_int] at g0
  rw [t1, o1, cellsOf_frac] at g1
  rw [cellsOf_layer] at hlen
  match cs, hlen with
  | [u, u0, u1, u2, u3], _ =>
    obtain ⟨m, e0, -, -⟩ := DataW.trod_int Try.underlying3 g0
    obtain ⟨a0, a1, a2, a3, n1, m1, q1, e1, r1⟩ := trod_fx g1
    simp at e0 e1
    obtain ⟨rfl, rfl, rfl, rfl⟩ := e1
    subst e0
    exact ⟨⟨m, u0, u1, u2, u3, n1, m1, q1⟩, rfl, w, Nat.le_refl _, r1, Below.refl _ _⟩
theorem open_stock {H : Type} {enc : TypeId × Value → H} {w : World} {spare : Nat → Bool} {held : Bool} {v : Value} {d : DataW H} {p : List MemPlace}
    (hv : Value.okWide Try.prog w .any 0 22 v) (h : DataW.Trod enc Try.prog w 0 spare held 22 v d p) : ∃ (a : Option Addr) (n c : Nat) (l : List LR), v = .slice a n c ∧ n ≤ 9223372036854775807 ∧ RdR w.heap.size w a n c l :=
  open_rdl (α := LR) Try.underlying22 cellsOf_layer (by decide) (fun _ _ _ h => trod_layer h) hv h
end Go.Proofs.Ytgmngkbocpadaaa
