/- The library's longest needle, as the shape of a world says it. -/
import Derived.Test.YtcfmakpckdicjaaGreatDoorBigSpec
import Derived.Test.YtcfmakpckdicjaaGreatDoorBigQ
import Derived.Test.YtcfmakpckdicjaaGreatDoorFz
import Derived.Test.YtcfmakpckdicjaaGreatDoorRefO
import Derived.Test.YtcfmakpckdicjaaGreatDoorOpenBig
import Derived.Test.YtcfmakpckdicjaaGreatDoorProg
import Derived.Test.YtcfmakpckdicjaaGreatDoorShelf
import Derived.WalkKit
import Derived.WalkSpells
import Derived.WalkLawsBesides
import Derived.Handy
import Derived.Lib.Hide
import Derived.Lib.Strings
import Derived.Lib.Builder
import Derived.BigQuiet
import Derived.Deep.Slices
import Derived.Deep.Fields
import Derived.ChangeSame
import Derived.OwnWalk
import Derived.Laws.BitsLemmas
import Derived.WalkSmall
import Derived.Deep.QuietTactic
import Derived.StillTailTactics
import Derived.Maps.AppendAt
import Derived.IntWalk
import Derived.Deep.RegionHeld3
import Derived.Deep.DeepFit
import Derived.Deep.LoopGhost
import Derived.Deep.DeepCutAuto
import Derived.Lib.ItoaNum
import Derived.Lib.Repeat
import Derived.Lib.AppendIntMem
import Derived.Sort.OwnSorted
import Derived.Shelf.Strings.SlTrimAscii
import Derived.Lib.ConvBytes
import Derived.Lib.CutLaws
namespace Go.Proofs.YtcfmakpckdicjaaGreatDoor
open Go.RowKit Go.WideShapes Go.ChangeShapes Go.Deep

theorem bigParts : ∃ f0 f1 : Field, Tryz.prog.underlying 24 = some (.struct #[f0, f1]) ∧ f0.type = 3 ∧ f0.offset = 0 ∧ f1.type = 22 ∧ f1.offset = 1 :=
 ⟨_, _, Tryz.underlying24, rfl, rfl, rfl, rfl⟩
theorem fracParts : ∃ f0 f1 : Field, Tryz.prog.underlying 26 = some (.struct #[f0, f1]) ∧ f0.type = 24 ∧ f0.offset = 0 ∧ f1.type = 24 ∧ f1.offset = 2 :=
 ⟨_, _, Tryz.underlying26, rfl, rfl, rfl, rfl⟩
theorem cellsOf_int : Tryz.prog.cellsOf 3 = 1 := by kernel_rfl
theorem cellsOf_ints : Tryz.prog.cellsOf 22 = 1 := by kernel_rfl
theorem cellsOf_big : Tryz.prog.cellsOf 24 = 2 := by kernel_rfl
theorem cellsOf_frac : Tryz.prog.cellsOf 26 = 4 := by kernel_rfl
/-- One field of a struct that is read. -/
theorem trod_field {H : Type} {enc : TypeId × Value → H} {w : World} {spare : Nat → Bool} {held : Bool} {n : Nat} {fs : Array Field} {cs : List Value} {xs : List (DataW H × List MemPlace)} {j : Nat} {f : Field}
  (hg : ∀ (i : Nat) (f : Field), fs[i]? = some f → DataW.trod enc Tryz.prog w 0 spare held n f.type ((cs.drop f.offset).take (Tryz.prog.cellsOf f.type)) = xs[i]?) (hl : xs.length = fs.size) (hj : fs[j]? = some f) :
  ∃ y, DataW.trod enc Tryz.prog w 0 spare held n f.type ((cs.drop f.offset).take (Tryz.prog.cellsOf f.type)) = some y := by
 have h := hg j f hj
 have hjl : j < fs.size := (Array.getElem?_eq_some_iff.1 hj).1
 exact ⟨xs[j]'(by omega), h.trans (List.getElem?_eq_getElem (by omega))⟩
set_option maxRecDepth 100000 in
theorem trod_big {H : Type} {enc : TypeId × Value → H} {w : World} {spare : Nat → Bool} {held : Bool} {n : Nat} {cs : List Value} {y : DataW H × List MemPlace} (h : DataW.trod enc Tryz.prog w 0 spare held n 24 cs = some y) :
  ∃ (s : Int) (a : Option Addr) (c : Nat) (l : List Int), cs = [.int .i64 s, .slice a l.length c] ∧ RdZ w (.slice a l.length c) l ∧ l.length ≤ c := by
 obtain ⟨f0, f1, he, t0, o0, t1, o1⟩ := bigParts
 obtain ⟨xs, n', -, -, hlen, hxl, hg⟩ := DataW.trod_struct he h
 obtain ⟨y0, g0⟩ := trod_field (j := 0) (f := f0) hg hxl rfl
 obtain ⟨y1, g1⟩ := trod_field (j := 1) (f := f1) hg hxl rfl
 rw [t0, o0, cellsOf_int] at g0
 rw [t1, o1, cellsOf_ints] at g1
 rw [cellsOf_big] at hlen
 match cs, hlen with
 | [u, v], _ =>
  obtain ⟨s, e0, -, -⟩ := DataW.trod_int Tryz.underlying3 g0
  have hu : u = .int .i64 s := by simpa using e0
  obtain ⟨a, c, l, e1, hr, hc⟩ := open_ints_at (u := v) (by simpa using g1)
  exact ⟨s, a, c, l, by rw [hu, e1], hr, hc⟩
set_option maxRecDepth 100000 in
theorem trod_frac {H : Type} {enc : TypeId × Value → H} {w : World} {spare : Nat → Bool} {held : Bool} {n : Nat} {cs : List Value} {y : DataW H × List MemPlace} (h : DataW.trod enc Tryz.prog w 0 spare held n 26 cs = some y) :
  ∃ (s : Int) (a : Option Addr) (c : Nat) (l : List Int) (t : Int) (b : Option Addr) (d : Nat) (m : List Int), cs = [.int .i64 s, .slice a l.length c, .int .i64 t, .slice b m.length d] ∧ FR w a c b d l m := by
 obtain ⟨f0, f1, he, t0, o0, t1, o1⟩ := fracParts
 obtain ⟨xs, n', -, -, hlen, hxl, hg⟩ := DataW.trod_struct he h
 obtain ⟨y0, g0⟩ := trod_field (j := 0) (f := f0) hg hxl rfl
 obtain ⟨y1, g1⟩ := trod_field (j := 1) (f := f1) hg hxl rfl
 rw [t0, o0, cellsOf_big] at g0
 rw [t1, o1, cellsOf_big] at g1
 rw [cellsOf_frac] at hlen
 obtain ⟨s, a, c, l, e0, r0, k0⟩ := trod_big g0
 obtain ⟨t, b, d, m, e1, r1, k1⟩ := trod_big g1
 match cs, hlen with
 | [u0, u1, u2, u3], _ =>
  simp at e0 e1
  exact ⟨s, a, c, l, t, b, d, m, by rw [e0.1, e0.2, e1.1, e1.2], ⟨r0, r1, k0, k1⟩⟩
set_option maxRecDepth 100000 in
theorem open_frac {H : Type} {enc : TypeId × Value → H} {w : World} {spare : Nat → Bool} {held : Bool} {v : Value} {d : DataW H} {p : List MemPlace}
  (hv : Value.okWide Tryz.prog w .any 0 26 v) (h : DataW.Trod enc Tryz.prog w 0 spare held 26 v d p) :
  ∃ (s : Int) (a : Option Addr) (c : Nat) (l : List Int) (t : Int) (b : Option Addr) (d : Nat) (m : List Int), v = .agg #[.int .i64 s, .slice a l.length c, .int .i64 t, .slice b m.length d] ∧ FR w a c b d l m := by
 obtain ⟨f0, f1, he, -⟩ := fracParts
 obtain ⟨cs, rfl, hsz⟩ := okWide_struct he hv
 obtain ⟨fuel, hf⟩ := h
 obtain ⟨s, a, c, l, t, b, d, m, e, hr⟩ := trod_frac hf
 refine ⟨s, a, c, l, t, b, d, m, ?_, hr⟩
 congr 1
 exact Array.ext' e
end Go.Proofs.YtcfmakpckdicjaaGreatDoor
namespace Go.Proofs.YtcfmakpckdicjaaGreatDoor
open Go.RowKit Go.WideShapes Go.ChangeShapes Go.Deep

theorem mx_of {W : World} (h : W.ShapedOpen Tryz.prog) : Mx W := Tryz.laysM219.s1_3 W h
end Go.Proofs.YtcfmakpckdicjaaGreatDoor
