/- An argument that is a list of figures, right or not. -/
import Derived.Test.YtlpcblhkddmlnaaBigQ
import Derived.Test.YtlpcblhkddmlnaaRw
import Derived.Test.YtlpcblhkddmlnaaReA
import Derived.Test.YtlpcblhkddmlnaaOpenRw
import Derived.Test.YtlpcblhkddmlnaaProg
import Derived.Test.YtlpcblhkddmlnaaShelf
import Derived.WalkKit
import Derived.WalkSpells
import Derived.WalkLawsBesides
import Derived.Handy
import Derived.Lib.Hide
import Derived.Lib.Strings
import Derived.Lib.Builder
import Derived.BigQuiet
import Derived.Deep.Slices
import Derived.Deep.Fields
import Derived.ChangeSame
import Derived.OwnWalk
import Derived.Laws.BitsLemmas
import Derived.WalkSmall
import Derived.Deep.QuietTactic
import Derived.StillTailTactics
import Derived.Maps.AppendAt
import Derived.IntWalk
import Derived.Deep.RegionHeld3
import Derived.Deep.DeepFit
import Derived.Deep.LoopGhost
import Derived.Deep.DeepCutAuto
import Derived.Lib.ItoaNum
import Derived.Lib.Repeat
import Derived.Lib.AppendIntMem
import Derived.Sort.OwnSorted
import Derived.Shelf.Strings.SlTrimAscii
import Derived.Lib.ConvBytes
import Derived.Lib.CutLaws
namespace Go.Proofs.Ytlpcblhkddmlnaa
open Go.RowKit Go.WideShapes Go.ChangeShapes Go.Deep

theorem trod_fx {H : Type} {enc : TypeId × Value → H} {w : World} {spare : Nat → Bool} {held : Bool} {n : Nat} {cs : List Value} {y : DataW H × List MemPlace} (h : DataW.trod enc Try.prog w 0 spare held n 27 cs = some y) :
  ∃ (u0 u1 u2 u3 : Value) (n m : Nat) (o : Option Rat), cs = [u0, u1, u2, u3] ∧ FX w u0 u1 u2 u3 n m o := by
 obtain ⟨s, a, c, l, t, b, d, m, e, hr⟩ := trod_frac h
 obtain ⟨o, hx⟩ := fx_of (s := s) (t := t) hr
 exact ⟨_, _, _, _, _, _, o, e, hx⟩
end Go.Proofs.Ytlpcblhkddmlnaa
namespace Go.Proofs.Ytlpcblhkddmlnaa
open Go.RowKit Go.WideShapes Go.ChangeShapes Go.Deep

theorem spanParts : ∃ f0 f1 : Field, Try.prog.underlying 29 = some (.struct #[f0, f1]) ∧ f0.type = 27 ∧ f0.offset = 0 ∧ f1.type = 27 ∧ f1.offset = 4 :=
 ⟨_, _, Try.underlying29, rfl, rfl, rfl, rfl⟩
theorem cellsOf_span : Try.prog.cellsOf 29 = 8 := by kernel_rfl
set_option maxRecDepth 100000 in
theorem trod_spanx {H : Type} {enc : TypeId × Value → H} {w : World} {spare : Nat → Bool} {held : Bool} {n : Nat} {cs : List Value} {y : DataW H × List MemPlace} (h : DataW.trod enc Try.prog w 0 spare held n 29 cs = some y) :
    ∃ (u0 u1 u2 u3 u4 u5 u6 u7 : Value) (n1 m1 : Nat) (o1 : Option Rat) (n2 m2 : Nat) (o2 : Option Rat), cs = [u0, u1, u2, u3, u4, u5, u6, u7] ∧ FX w u0 u1 u2 u3 n1 m1 o1 ∧ FX w u4 u5 u6 u7 n2 m2 o2 := by
  obtain ⟨f0, f1, he, t0, o0, t1, o1⟩ := spanParts
  obtain ⟨xs, n', -, -, hlen, hxl, hg⟩ := DataW.trod_struct he h
  obtain ⟨y0, g0⟩ := trod_field (j := 0) (f := f0) hg hxl rfl
  obtain ⟨y1, g1⟩ := trod_field (j := 1) (f := f1) hg hxl rfl
  rw [t0, o0, cellsOf_frac] at g0
  rw [t1, o1, cellsOf_frac] at g1
  rw [cellsOf_span] at hlen
  obtain ⟨a0, a1, a2, a3, n1, m1, q1, e0, r0⟩ := trod_fx g0
  obtain ⟨b0, b1, b2, b3, n2, m2, q2, e1, r1⟩ := trod_fx g1
  match cs, hlen with
  | [u0, u1, u2, u3, u4, u5, u6, u7], _ =>
    simp at e0 e1
    refine ⟨u0, u1, u2, u3, u4, u5, u6, u7, n1, m1, q1, n2, m2, q2, rfl, ?_, ?_⟩
    · rw [e0.1, e0.2.1, e0.2.2.1, e0.2.2.2]; exact r0
    · rw [e1.1, e1.2.1, e1.2.2.1, e1.2.2.2]; exact r1
set_option maxRecDepth 100000 in
theorem open_spanx {H : Type} {enc : TypeId × Value → H} {w : World} {spare : Nat → Bool} {held : Bool} {v : Value} {d : DataW H} {p : List MemPlace}
  (hv : Value.okWide Try.prog w .any 0 29 v) (h : DataW.Trod enc Try.prog w 0 spare held 29 v d p) :
  ∃ (u0 u1 u2 u3 u4 u5 u6 u7 : Value) (n1 m1 : Nat) (o1 : Option Rat) (n2 m2 : Nat) (o2 : Option Rat), v = .agg #[u0, u1, u2, u3, u4, u5, u6, u7] ∧ FX w u0 u1 u2 u3 n1 m1 o1 ∧ FX w u4 u5 u6 u7 n2 m2 o2 := by
 obtain ⟨f0, f1, he, -⟩ := spanParts
 obtain ⟨cs, rfl, hsz⟩ := okWide_struct he hv
 obtain ⟨fuel, hf⟩ := h
 obtain ⟨u0, u1, u2, u3, u4, u5, u6, u7, n1, m1, o1, n2, m2, o2, e, h1, h2⟩ := trod_spanx hf
 refine ⟨u0, u1, u2, u3, u4, u5, u6, u7, n1, m1, o1, n2, m2, o2, ?_, h1, h2⟩
 congr 1
 exact Array.ext' e
end Go.Proofs.Ytlpcblhkddmlnaa
namespace Go.Proofs.Ytlpcblhkddmlnaa
open Go.RowKit Go.WideShapes Go.ChangeShapes Go.Deep

theorem shownParts : ∃ f0 f1 f2 : Field, Try.prog.underlying 37 = some (.struct #[f0, f1, f2]) ∧ f0.type = 9 ∧ f0.offset = 0 ∧ f1.type = 3 ∧ f1.offset = 1 ∧ f2.type = 29 ∧ f2.offset = 2 :=
 ⟨_, _, _, Try.underlying37, rfl, rfl, rfl, rfl, rfl, rfl⟩
theorem cellsOf_shown : Try.prog.cellsOf 37 = 10 := by kernel_rfl
theorem cellsOf_str : Try.prog.cellsOf 9 = 1 := by kernel_rfl
theorem cellsOf_int' : Try.prog.cellsOf 3 = 1 := by kernel_rfl
set_option maxRecDepth 100000 in
theorem trod_shown {H : Type} {enc : TypeId × Value → H} {w : World} {spare : Nat → Bool} {held : Bool} {n : Nat} {cs : List Value} {y : DataW H × List MemPlace} (h : DataW.trod enc Try.prog w 0 spare held n 37 cs = some y) :
  ∃ x : SR, cs = El.cells x ∧ El.ok w.heap.size w x := by
 obtain ⟨f0, f1, f2, he, t0, o0, t1, o1, t2, o2⟩ := shownParts
 obtain ⟨xs, n', -, -, hlen, hxl, hg⟩ := DataW.trod_struct he h
 obtain ⟨y0, g0⟩ := trod_field (j := 0) (f := f0) hg hxl rfl
 obtain ⟨y1, g1⟩ := trod_field (j := 1) (f := f1) hg hxl rfl
 obtain ⟨y2, g2⟩ := trod_field (j := 2) (f := f2) hg hxl rfl
 rw [t0, o0, cellsOf_str] at g0
 rw [t1, o1, cellsOf_int'] at g1
 rw [t2, o2, cellsOf_span] at g2
 rw [cellsOf_shown] at hlen
 match cs, hlen with
 | [a, b, u0, u1, u2, u3, v0, v1, v2, v3], _ =>
  obtain ⟨s, e0, -, -⟩ := DataW.trod_string Try.underlying9 g0
  obtain ⟨m, e1, -, -⟩ := DataW.trod_int Try.underlying3 g1
  obtain ⟨a0, a1, a2, a3, a4, a5, a6, a7, n1, m1, q1, n2, m2, q2, e2, r1, r2⟩ := trod_spanx g2
  simp at e0 e1 e2
  obtain ⟨rfl, rfl, rfl, rfl, rfl, rfl, rfl, rfl⟩ := e2
  subst e0 e1
  exact ⟨⟨s, m, u0, u1, u2, u3, n1, m1, q1, v0, v1, v2, v3, n2, m2, q2⟩, rfl, w, Nat.le_refl _, r1, r2, Below.refl _ _⟩
set_option maxRecDepth 100000 in
theorem open_shown {H : Type} {enc : TypeId × Value → H} {w : World} {spare : Nat → Bool} {held : Bool} {v : Value} {d : DataW H} {p : List MemPlace}
  (hv : Value.okWide Try.prog w .any 0 22 v) (h : DataW.Trod enc Try.prog w 0 spare held 22 v d p) : ∃ (a : Option Addr) (n c : Nat) (l : List SR), v = .slice a n c ∧ n ≤ 9223372036854775807 ∧ RdR w.heap.size w a n c l :=
 open_rdl (α := SR) Try.underlying22 cellsOf_shown (by decide) (fun _ _ _ h => trod_shown h) hv h
end Go.Proofs.Ytlpcblhkddmlnaa
