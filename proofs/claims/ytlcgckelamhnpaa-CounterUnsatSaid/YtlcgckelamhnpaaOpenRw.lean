/- An argument that is a slice of structs: its elements, whatever they are. -/
import Derived.Test.YtlcgckelamhnpaaBigSpec
import Derived.Test.YtlcgckelamhnpaaBigC
import Derived.Test.YtlcgckelamhnpaaRw
import Derived.Test.YtlcgckelamhnpaaProg
import Derived.Test.YtlcgckelamhnpaaShelf
import Derived.WalkKit
import Derived.WalkSpells
import Derived.WalkLawsBesides
import Derived.Handy
import Derived.Lib.Hide
import Derived.Lib.Strings
import Derived.Lib.Builder
import Derived.BigQuiet
import Derived.Deep.Slices
import Derived.Deep.Fields
import Derived.ChangeSame
import Derived.OwnWalk
import Derived.Laws.BitsLemmas
import Derived.WalkSmall
import Derived.Deep.QuietTactic
import Derived.StillTailTactics
import Derived.Maps.AppendAt
import Derived.IntWalk
import Derived.Deep.RegionHeld3
import Derived.Deep.DeepFit
import Derived.Deep.LoopGhost
import Derived.Deep.DeepCutAuto
import Derived.Lib.ItoaNum
import Derived.Lib.Repeat
import Derived.Lib.AppendIntMem
import Derived.Sort.OwnSorted
import Derived.Shelf.Strings.SlTrimAscii
import Derived.Lib.ConvBytes
import Derived.Lib.CutLaws
namespace Go.Proofs.Ytlcgckelamhnpaa
open Go.RowKit Go.WideShapes Go.ChangeShapes Go.Deep

/-- One field of a struct that is read. -/
theorem trod_field {H : Type} {enc : TypeId × Value → H} {w : World} {spare : Nat → Bool} {held : Bool} {n : Nat} {fs : Array Field} {cs : List Value} {xs : List (DataW H × List MemPlace)} {j : Nat} {f : Field}
  (hg : ∀ (i : Nat) (f : Field), fs[i]? = some f → DataW.trod enc Try.prog w 0 spare held n f.type ((cs.drop f.offset).take (Try.prog.cellsOf f.type)) = xs[i]?) (hl : xs.length = fs.size) (hj : fs[j]? = some f) :
  ∃ y, DataW.trod enc Try.prog w 0 spare held n f.type ((cs.drop f.offset).take (Try.prog.cellsOf f.type)) = some y := by
 have h := hg j f hj
 have hjl : j < fs.size := (Array.getElem?_eq_some_iff.1 hj).1
 exact ⟨xs[j]'(by omega), h.trans (List.getElem?_eq_getElem (by omega))⟩
end Go.Proofs.Ytlcgckelamhnpaa
namespace Go.Proofs.Ytlcgckelamhnpaa
open Go.RowKit Go.WideShapes Go.ChangeShapes Go.Deep

theorem cell_at {w : World} {a : Addr} {v : Value} (h : w.cell? a = some v) : a = ⟨a.block, a.off, none⟩ ∧ a.block < w.heap.size := by
  obtain ⟨b, o, p⟩ := a
  refine ⟨?_, ?_⟩
  · cases p with
    | none => rfl
    | some q => exfalso; simp only [World.cell?] at h; split at h <;> simp_all
  · rcases Nat.lt_or_ge b w.heap.size with h' | h'
    · exact h'
    · simp [World.cell?, Array.getElem?_eq_none h'] at h
theorem choose_list {α : Type} {p : Nat → α → Prop} : ∀ (n : Nat), (∀ i, i < n → ∃ x, p i x) → ∃ l : List α, l.length = n ∧ ∀ (i : Nat) (x : α), l[i]? = some x → p i x
  | 0, _ => ⟨[], rfl, fun i x h => by simp at h⟩
  | n + 1, h => by
    obtain ⟨l, hl, hp⟩ := choose_list n (fun i hi => h i (by omega))
    obtain ⟨y, hy⟩ := h n (by omega)
    refine ⟨l ++ [y], by simp [hl], fun i x hx => ?_⟩
    rcases Nat.lt_or_ge i l.length with h1 | h1
    · rw [List.getElem?_append_left h1] at hx; exact hp i x hx
    · rw [List.getElem?_append_right h1] at hx
      rcases Nat.eq_or_lt_of_le h1 with h2 | h2
      · rw [← h2, Nat.sub_self] at hx; cases hx; rw [← h2, hl]; exact hy
      · rw [List.getElem?_eq_none (by simp; omega)] at hx; cases hx
end Go.Proofs.Ytlcgckelamhnpaa
