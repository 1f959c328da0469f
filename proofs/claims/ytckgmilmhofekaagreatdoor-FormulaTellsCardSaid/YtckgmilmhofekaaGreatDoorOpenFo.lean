/- An argument that is an expression: what its reading says of memory. -/
import Derived.Test.YtckgmilmhofekaaGreatDoorFoBack
import Derived.Test.YtckgmilmhofekaaGreatDoorBase
import Derived.Test.YtckgmilmhofekaaGreatDoorLexPrint
import Derived.Test.YtckgmilmhofekaaGreatDoorBigSpec
import Derived.Test.YtckgmilmhofekaaGreatDoorFoWd
import Derived.Test.YtckgmilmhofekaaGreatDoorFoOx
import Derived.Test.YtckgmilmhofekaaGreatDoorFoCn
import Derived.Test.YtckgmilmhofekaaGreatDoorFoWl
import Derived.Test.YtckgmilmhofekaaGreatDoorFoSz
import Derived.Test.YtckgmilmhofekaaGreatDoorFoPt
import Derived.Test.YtckgmilmhofekaaGreatDoorProg
import Derived.Test.YtckgmilmhofekaaGreatDoorShelf
import Derived.WalkKit
import Derived.Lib.ItoaNum
import Derived.WalkSpells
import Derived.WalkLawsBesides
import Derived.Handy
import Derived.Lib.Hide
import Derived.Lib.Strings
import Derived.Lib.Builder
import Derived.Shelf.Strings.Builder1
import Derived.BigQuiet
import Derived.OwnWalk
import Derived.Laws.BitsLemmas
import Derived.WalkSmall
import Derived.Deep.QuietTactic
import Derived.StillTailTactics
import Derived.Maps.AppendAt
import Derived.IntWalk
import Derived.Deep.RegionHeld3
import Derived.Deep.DeepFit
import Derived.Deep.LoopGhost
import Derived.Deep.DeepCutAuto
import Derived.Lib.Repeat
import Derived.Lib.AppendIntMem
import Derived.Sort.OwnSorted
import Derived.Shelf.Strings.SlTrimAscii
import Derived.Lib.ConvBytes
import Derived.Lib.CutLaws
import Derived.ArgAppend
import Derived.Deep.Slices
import Derived.Deep.Fields
import Derived.ChangeSame
namespace Go.Proofs.YtckgmilmhofekaaGreatDoor
open Go.RowKit Go.WideShapes Go.ChangeShapes Go.Deep

theorem cell_plainF {w : World} {a : Addr} {v : Value} (h : w.cell? a = some v) : a = ⟨a.block, a.off, none⟩ ∧ a.block < w.heap.size := by
  obtain ⟨b, o, p⟩ := a
  refine ⟨?_, ?_⟩
  · cases p with
    | none => rfl
    | some q => exfalso; simp only [World.cell?] at h; split at h <;> simp_all
  · rcases Nat.lt_or_ge b w.heap.size with h' | h'
    · exact h'
    · simp [World.cell?, Array.getElem?_eq_none h'] at h
theorem exprParts : ∃ f0 f1 f2 f3 f4 : Field, Tryz.prog.underlying 24 = some (.struct #[f0, f1, f2, f3, f4]) ∧ f0.type = 3 ∧ f0.offset = 0 ∧ f1.type = 3 ∧ f1.offset = 1 ∧ f2.type = 9 ∧ f2.offset = 2 ∧ f3.type = 9 ∧ f3.offset = 3 ∧ f4.type = 22 ∧ f4.offset = 4 :=
 ⟨_, _, _, _, _, Tryz.underlying24, rfl, rfl, rfl, rfl, rfl, rfl, rfl, rfl, rfl, rfl⟩
theorem cellsOf_expr : Tryz.prog.cellsOf 24 = 5 := by kernel_rfl
theorem cellsOf_int1 : Tryz.prog.cellsOf 3 = 1 := by kernel_rfl
theorem cellsOf_str1 : Tryz.prog.cellsOf 9 = 1 := by kernel_rfl
theorem cellsOf_sl1 : Tryz.prog.cellsOf 22 = 1 := by kernel_rfl
/-- So many things, each with a property. -/
theorem choose_list {α : Type} : ∀ (n : Nat) (p : Nat → α → Prop), (∀ i, i < n → ∃ x, p i x) → ∃ l : List α, l.length = n ∧ ∀ i x, l[i]? = some x → p i x
  | 0, _, _ => ⟨[], rfl, fun i x h => by simp at h⟩
  | n + 1, p, h => by
    obtain ⟨l, hl, hp⟩ := choose_list n p (fun i hi => h i (by omega))
    obtain ⟨x, hx⟩ := h n (by omega)
    refine ⟨l ++ [x], by simp [hl], fun i y hy => ?_⟩
    rcases Nat.lt_or_ge i n with hi | hi
    · rw [List.getElem?_append_left (by omega)] at hy; exact hp i y hy
    · rw [List.getElem?_append_right (by omega)] at hy
      have : i - l.length = 0 := by
        rcases Nat.eq_zero_or_pos (i - l.length) with h0 | h0
        · exact h0
        · rw [List.getElem?_eq_none (by simp; omega)] at hy; cases hy
      rw [this] at hy; cases hy
      rw [show i = n by omega]; exact hx
theorem smF_list : ∀ {l : List Ex}, (∀ x ∈ l, smX x) → smF (Fo.of l)
 | [], _ => trivial
 | x :: _, h => ⟨h x (List.mem_cons_self ..), smF_list fun y hy => h y (List.mem_cons_of_mem _ hy)⟩
theorem len5 {l : List Value} (h : l.length = 5) : ∃ u0 u1 u2 u3 u4, l = [u0, u1, u2, u3, u4] := by
 match l, h with
 | [u0, u1, u2, u3, u4], _ => exact ⟨u0, u1, u2, u3, u4, rfl⟩
theorem trod_expr {H : Type} {enc : TypeId × Value → H} {w : World} {spare : Nat → Bool} {held : Bool} (N : Nat) : ∀ (n : Nat), n < N → ∀ (cs : List Value) (y : DataW H × List MemPlace), DataW.trod enc Tryz.prog w 0 spare held n 24 cs = some y →
    ∃ (x : Ex) (q : Option Addr) (d : Nat), cs = hdC x q d ∧ smX x ∧ FoT w q d x.args := by
  induction N with
  | zero => exact fun n hn => absurd hn (Nat.not_lt_zero _)
  | succ N ih =>
    intro n hn cs y h
    obtain ⟨f0, f1, f2, f3, f4, he, t0, o0, t1, o1, t2, o2, t3, o3, t4, o4⟩ := exprParts
    obtain ⟨xs, n', rfl, -, hlen, hxl, hg⟩ := DataW.trod_struct he h
    have fld : ∀ (j : Nat) (f : Field), (#[f0, f1, f2, f3, f4] : Array Field)[j]? = some f → ∃ y, DataW.trod enc Tryz.prog w 0 spare held n' f.type ((cs.drop f.offset).take (Tryz.prog.cellsOf f.type)) = some y := fun j f hj => by
      have h := hg j f hj
      have hjl : j < (#[f0, f1, f2, f3, f4] : Array Field).size := (Array.getElem?_eq_some_iff.1 hj).1
      exact ⟨_, h.trans (List.getElem?_eq_getElem (by rw [hxl]; exact hjl))⟩
    obtain ⟨y0, g0⟩ := fld 0 f0 rfl
    obtain ⟨y1, g1⟩ := fld 1 f1 rfl
    obtain ⟨y2, g2⟩ := fld 2 f2 rfl
    obtain ⟨y3, g3⟩ := fld 3 f3 rfl
    obtain ⟨y4, g4⟩ := fld 4 f4 rfl
    rw [t0, o0, cellsOf_int1] at g0
    rw [t1, o1, cellsOf_int1] at g1
    rw [t2, o2, cellsOf_str1] at g2
    rw [t3, o3, cellsOf_str1] at g3
    rw [t4, o4, cellsOf_sl1] at g4
    rw [cellsOf_expr] at hlen
    obtain ⟨u0, u1, u2, u3, u4, rfl⟩ := len5 hlen
    · obtain ⟨op, e0, -, -⟩ := DataW.trod_int Tryz.underlying3 g0
      obtain ⟨nn, e1, -, -⟩ := DataW.trod_int Tryz.underlying3 g1
      obtain ⟨un, e2, -, hu⟩ := DataW.trod_string Tryz.underlying9 g2
      obtain ⟨nm, e3, -, hm⟩ := DataW.trod_string Tryz.underlying9 g3
      simp at e0 e1 e2 e3
      subst e0 e1 e2 e3
      have hu' : un.data.toList.length ≤ 9223372036854775807 := by rw [bytes_len]; exact hu
      have hm' : nm.data.toList.length ≤ 9223372036854775807 := by rw [bytes_len]; exact hm
      rcases DataW.trod_slice Tryz.underlying22 g4 with ⟨e4, -⟩ | ⟨a, len, cap, elems, rest, m, hfu, e4, -, -, hl, hc, hel, hi, -⟩
      · simp at e4
        subst e4
        exact ⟨⟨op, nn, un.data.toList, nm.data.toList, .nil⟩, none, 0, by simp [hdC, Fo.len], ⟨hu', hm', Nat.zero_le _, trivial⟩, FoS.nil⟩
      · simp at e4
        subst e4
        obtain ⟨l, hll, hp⟩ := choose_list (α := Ex) len (fun i x => ∃ q d, w.cells? 0 (a.add (i * 5)) 5 = some (hdC x q d) ∧ smX x ∧ FoT w q d x.args) (fun i hil => by
          have h1 := hi i hil
          rw [cellsOf_expr, List.getElem?_eq_getElem (by omega)] at h1
          cases hcs : w.cells? 0 (a.add (i * 5)) 5 with
          | none => rw [hcs] at h1; cases h1
          | some cs' =>
            rw [hcs] at h1
            obtain ⟨x, q, d, rfl, h2, h3⟩ := ih m (by omega) _ _ h1
            exact ⟨x, q, d, rfl, h2, h3⟩)
        have hlen2 : (Fo.of l).len = len := by rw [← Fo.len_list, Fo.list_of, hll]
        have hsm : ∀ x ∈ l, smX x := fun x hx => by
          obtain ⟨i, hi⟩ := List.getElem?_of_mem hx
          obtain ⟨_, _, _, h2, _⟩ := hp i x hi
          exact h2
        have hat : ∀ i x, l[i]? = some x → ∃ q d, (∀ (j : Nat) (v : Value), (hdC x q d)[j]? = some v → w.cell? (a.add (i * 5 + j)) = some v) ∧ FoT w q d x.args := fun i x hix => by
          obtain ⟨q, d, hcs, -, h3⟩ := hp i x hix
          obtain ⟨_, hcl, hat⟩ := World.cells?_some hcs
          refine ⟨q, d, fun j v hj => ?_, h3⟩
          have hjl : j < 5 := by have := (List.getElem?_eq_some_iff.1 hj).1; exact this
          rw [← Go.Deep.add_add, hat j hjl]; exact hj
        refine ⟨⟨op, nn, un.data.toList, nm.data.toList, Fo.of l⟩, some a, cap, by simp [hdC, hlen2], ⟨hu', hm', by rw [hlen2]; unfold maxLen at hc; omega, smF_list hsm⟩, by rw [hlen2]; exact hl, ?_⟩
        rcases Nat.eq_zero_or_pos len with h0 | h0
        · left; rw [hlen2]; exact h0
        · right
          obtain ⟨x, hx⟩ : ∃ x, l[0]? = some x := ⟨_, List.getElem?_eq_getElem (by omega)⟩
          obtain ⟨q, d, hc0, -⟩ := hat 0 x hx
          obtain ⟨hb1, hb2⟩ := cell_plainF (hc0 0 _ rfl)
          obtain ⟨b, o, r⟩ := a
          obtain rfl : r = none := by
            cases r with
            | none => rfl
            | some r => simp [Addr.add] at hb1
          refine ⟨b, o, rfl, trivial, hb2, FoC.of fun k y hy => ?_⟩
          obtain ⟨q, d, hcell, hs⟩ := hat k y hy
          refine ⟨q, d, fun j v hj => ?_, hs⟩
          have := hcell j v hj
          rw [add_off] at this
          rw [show o + 5 * k + j = o + (k * 5 + j) by omega]; exact this
set_option maxRecDepth 100000 in
set_option linter.constructorNameAsVariable false in
theorem open_expr {H : Type} {enc : TypeId × Value → H} {w : World} {spare : Nat → Bool} {held : Bool} {v : Value} {d : DataW H} {p : List MemPlace}
  (hv : Value.okWide Tryz.prog w .any 0 24 v) (h : DataW.Trod enc Tryz.prog w 0 spare held 24 v d p) : ∃ (x : Ex) (q : Option Addr) (d : Nat), v = .agg (hdC x q d).toArray ∧ smX x ∧ FoT w q d x.args := by
 obtain ⟨fuel, hf⟩ := h
 obtain ⟨x, q, d, hc, h1, h2⟩ := trod_expr (fuel + 1) fuel (Nat.lt_succ_self _) _ _ hf
 obtain ⟨_, _, _, _, _, he, _⟩ := exprParts
 obtain ⟨cs, rfl, -⟩ := okWide_struct he hv
 have e : cs = (hdC x q d).toArray := Array.ext' hc
 subst e
 exact ⟨x, q, d, rfl, h1, h2⟩
end Go.Proofs.YtckgmilmhofekaaGreatDoor
