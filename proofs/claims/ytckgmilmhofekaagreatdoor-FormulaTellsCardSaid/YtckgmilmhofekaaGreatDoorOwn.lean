/- Slices of structs: what an element is, in memory; slices that are read, and slices that the call owns and appends to. -/
import Derived.Test.YtckgmilmhofekaaGreatDoorBase
import Derived.Test.YtckgmilmhofekaaGreatDoorBigSpec
import Derived.Test.YtckgmilmhofekaaGreatDoorBigD
import Derived.Test.YtckgmilmhofekaaGreatDoorBigQ
import Derived.Test.YtckgmilmhofekaaGreatDoorFd
import Derived.Test.YtckgmilmhofekaaGreatDoorProg
import Derived.Test.YtckgmilmhofekaaGreatDoorShelf
import Derived.WalkKit
import Derived.WalkSpells
import Derived.WalkLawsBesides
import Derived.Handy
import Derived.Lib.Hide
import Derived.Lib.Strings
import Derived.Lib.Builder
import Derived.BigQuiet
import Derived.OwnWalk
import Derived.Laws.BitsLemmas
import Derived.WalkSmall
import Derived.Deep.QuietTactic
import Derived.StillTailTactics
import Derived.Maps.AppendAt
import Derived.IntWalk
import Derived.Deep.RegionHeld3
import Derived.Deep.DeepFit
import Derived.Deep.LoopGhost
import Derived.Deep.DeepCutAuto
import Derived.Lib.ItoaNum
import Derived.Lib.Repeat
import Derived.Lib.AppendIntMem
import Derived.Sort.OwnSorted
import Derived.Shelf.Strings.SlTrimAscii
import Derived.Lib.ConvBytes
import Derived.Lib.CutLaws
namespace Go.Proofs.YtckgmilmhofekaaGreatDoor
open Go.RowKit
variable {G : Nat}

theorem below_none_ {w w' : World} (hg : w.grownBy w' none) : Below w.heap.size w w' := ⟨hg.os, hg.tape, hg.output, hg.size, fun k hk => hg.block k hk (by simp)⟩
/-- The block of a slice that the call owns. -/
theorem own_block {w : World} {B : Nat} {e : TypeId} {size n : Nat} {v : Value} {xs : List Value} (h : w.ownsRow B e size v n xs) : v.ownBlock = none ∨ ∃ g cur, v.ownBlock = some g ∧ B ≤ g ∧ Bx w g e cur := by
  rcases h.2 with ⟨rfl, -⟩ | ⟨g, cap, cur, rfl, hg, hh, -⟩
  · exact .inl rfl
  · exact .inr ⟨g, cur, rfl, hg, hh⟩
theorem Bx.grown {w w' : World} {g : Nat} {T : TypeId} {cs : Array Value} {B : Nat} {e : TypeId} {size n : Nat} {v : Value} {xs : List Value} (h : Bx w g T cs) (ho : w.ownsRow B e size v n xs) (hlt : g < B) (hg : w.grownBy w' v.ownBlock) : Bx w' g T cs := by
  rcases own_block ho with h1 | ⟨g', cur, h1, h2, h3⟩
  · rw [h1] at hg; exact h.keep (below_none_ hg)
  · rw [h1] at hg; exact h.only hg (by omega)
theorem flatten_get {α : Type} {n : Nat} : ∀ {l : List (List α)}, (∀ x ∈ l, x.length = n) → ∀ {k : Nat} (hk : k < l.length) {j : Nat}, j < n → l.flatten[k * n + j]? = (l[k])[j]?
 | [], _, k, hk, _, _ => by simp at hk
 | y :: l, hl, 0, _, j, hj => by
  have := hl y (by simp)
  rw [List.flatten_cons, Nat.zero_mul, Nat.zero_add, List.getElem?_append_left (by omega)]; rfl
 | y :: l, hl, k + 1, hk, j, hj => by
  have h1 := hl y (by simp)
  have ih := flatten_get (l := l) (fun z hz => hl z (List.mem_cons_of_mem _ hz)) (k := k) (by simpa using hk) hj
  rw [List.flatten_cons, List.getElem?_append_right (by rw [h1, Nat.succ_mul]; omega), h1, show (k + 1) * n + j - n = k * n + j by rw [Nat.succ_mul]; omega]
  exact ih
end Go.Proofs.YtckgmilmhofekaaGreatDoor
