/- Slices of structs: what an element is, in memory; slices that are read, and slices that the call owns and appends to. -/
import Derived.Test.YtjbfngjlepafgaaGreatBase
import Derived.Test.YtjbfngjlepafgaaGreatBigSpec
import Derived.Test.YtjbfngjlepafgaaGreatBigB
import Derived.Test.YtjbfngjlepafgaaGreatBigD
import Derived.Test.YtjbfngjlepafgaaGreatBigK
import Derived.Test.YtjbfngjlepafgaaGreatBigQ
import Derived.Test.YtjbfngjlepafgaaGreatFracA
import Derived.Test.YtjbfngjlepafgaaGreatAw
import Derived.Test.YtjbfngjlepafgaaGreatRefO
import Derived.Test.YtjbfngjlepafgaaGreatFq
import Derived.Test.YtjbfngjlepafgaaGreatProg
import Derived.Test.YtjbfngjlepafgaaGreatShelf
import Derived.WalkKit
import Derived.WalkSpells
import Derived.WalkLawsBesides
import Derived.Handy
import Derived.Lib.Hide
import Derived.Lib.Strings
import Derived.Lib.Builder
import Derived.BigQuiet
import Derived.OwnWalk
import Derived.Laws.BitsLemmas
import Derived.WalkSmall
import Derived.Deep.QuietTactic
import Derived.StillTailTactics
import Derived.Maps.AppendAt
import Derived.IntWalk
import Derived.Deep.RegionHeld3
import Derived.Deep.DeepFit
import Derived.Deep.LoopGhost
import Derived.Deep.DeepCutAuto
import Derived.Lib.ItoaNum
import Derived.Lib.Repeat
import Derived.Lib.AppendIntMem
import Derived.Sort.OwnSorted
import Derived.Shelf.Strings.SlTrimAscii
import Derived.Lib.ConvBytes
import Derived.Lib.CutLaws
namespace Go.Proofs.YtjbfngjlepafgaaGreat
open Go.RowKit
variable {G : Nat}

/-- What reads as an element: its cells, and what they lead to. -/
class Elem (α : Type) where
 sz : Nat
 ok : Nat → World → List Value → α → Prop
 len : ∀ {G : Nat} {w : World} {cs : List Value} {x : α}, ok G w cs x → cs.length = sz
 one : ∀ {G : Nat} {w : World} {cs : List Value} {x : α}, ok G w cs x → ∀ u ∈ cs, u.oneCell' = true
 keep : ∀ {G : Nat} {w w' : World} {cs : List Value} {x : α}, ok G w cs x → Below w.heap.size w w' → ok G w' cs x
 only : ∀ {G : Nat} {w w' : World} {cs : List Value} {x : α}, ok G w cs x → ∀ (g : Nat) (T : TypeId) (ys : Array Value), Bx w g T ys → (T == 3) = false → G ≤ g → w.grownBy w' (some g) → ok G w' cs x
theorem below_none_ {w w' : World} (hg : w.grownBy w' none) : Below w.heap.size w w' := ⟨hg.os, hg.tape, hg.output, hg.size, fun k hk => hg.block k hk (by simp)⟩
/-- The block of a slice that the call owns. -/
theorem own_block {w : World} {B : Nat} {e : TypeId} {size n : Nat} {v : Value} {xs : List Value} (h : w.ownsRow B e size v n xs) : v.ownBlock = none ∨ ∃ g cur, v.ownBlock = some g ∧ B ≤ g ∧ Bx w g e cur := by
  rcases h.2 with ⟨rfl, -⟩ | ⟨g, cap, cur, rfl, hg, hh, -⟩
  · exact .inl rfl
  · exact .inr ⟨g, cur, rfl, hg, hh⟩
theorem Elem.grown {α : Type} [Elem α] {w w' : World} {cs : List Value} {x : α} {B : Nat} {e : TypeId} {size n : Nat} {v : Value} {xs : List Value} (h : Elem.ok G w cs x) (ho : w.ownsRow B e size v n xs) (he : (e == 3) = false) (hG : G ≤ B) (hg : w.grownBy w' v.ownBlock) : Elem.ok G w' cs x := by
  rcases own_block ho with h1 | ⟨g, cur, h1, h2, h3⟩
  · rw [h1] at hg; exact Elem.keep h (below_none_ hg)
  · rw [h1] at hg; exact Elem.only h g e cur h3 he (by omega) hg
theorem TQ.grown {w w' : World} {u0 u1 u2 u3 : Value} {x y : Int} {B : Nat} {e : TypeId} {size n : Nat} {v : Value} {xs : List Value} (h : TQ G w u0 u1 u2 u3 x y) (ho : w.ownsRow B e size v n xs) (he : (e == 3) = false) (hG : G ≤ B) (hg : w.grownBy w' v.ownBlock) : TQ G w' u0 u1 u2 u3 x y := by
  rcases own_block ho with h1 | ⟨g, cur, h1, h2, h3⟩
  · rw [h1] at hg; exact h.keep (below_none_ hg)
  · rw [h1] at hg; exact h.far h3 he (by omega) hg
theorem FQ.grown {w w' : World} {u0 u1 u2 u3 : Value} {q : Rat} {B : Nat} {e : TypeId} {size n : Nat} {v : Value} {xs : List Value} (h : FQ G w u0 u1 u2 u3 q) (ho : w.ownsRow B e size v n xs) (he : (e == 3) = false) (hG : G ≤ B) (hg : w.grownBy w' v.ownBlock) : FQ G w' u0 u1 u2 u3 q := TQ.grown h ho he hG hg
theorem OQ.grown {w w' : World} {u0 u1 u2 u3 : Value} {o : Option Rat} {B : Nat} {e : TypeId} {size n : Nat} {v : Value} {xs : List Value} (h : OQ G w u0 u1 u2 u3 o) (ho : w.ownsRow B e size v n xs) (he : (e == 3) = false) (hG : G ≤ B) (hg : w.grownBy w' v.ownBlock) : OQ G w' u0 u1 u2 u3 o := TQ.grown h ho he hG hg
theorem Bx.grown {w w' : World} {g : Nat} {T : TypeId} {cs : Array Value} {B : Nat} {e : TypeId} {size n : Nat} {v : Value} {xs : List Value} (h : Bx w g T cs) (ho : w.ownsRow B e size v n xs) (hlt : g < B) (hg : w.grownBy w' v.ownBlock) : Bx w' g T cs := by
  rcases own_block ho with h1 | ⟨g', cur, h1, h2, h3⟩
  · rw [h1] at hg; exact h.keep (below_none_ hg)
  · rw [h1] at hg; exact h.only hg (by omega)
theorem below_grown {b : Nat} {w0 w w' : World} {B : Nat} {e : TypeId} {size n : Nat} {v : Value} {xs : List Value} (h : Below b w0 w) (ho : w.ownsRow B e size v n xs) (hB : b ≤ B) (hbw : b ≤ w.heap.size) (hg : w.grownBy w' v.ownBlock) : Below b w0 w' :=
 h.grown hg hbw fun k hk => Nat.le_trans hB (ho.lt k hk).1
/-- Elements in memory, one behind the other. -/
def Ls {α : Type} [Elem α] (G : Nat) (w : World) (b off : Nat) (l : List α) : Prop := ∀ k (h : k < l.length), ∃ cs, Row w b (off + k * Elem.sz α) cs ∧ Elem.ok G w cs l[k]
theorem Ls.keep {α : Type} [Elem α] {w w' : World} {b off : Nat} {l : List α} (h : Ls G w b off l) (hb : Below w.heap.size w w') : Ls G w' b off l := fun k hk => by
 obtain ⟨cs, h1, h2⟩ := h k hk
 exact ⟨cs, h1.keep hb, Elem.keep h2 hb⟩
instance {α : Type} [Elem α] {w w' : World} {b off : Nat} {l : List α} : Goes (Ls G w b off l) w w' (Ls G w' b off l) := ⟨fun h hb => h.keep hb⟩
/-- A slice of elements. -/
def Sl {α : Type} [Elem α] (G : Nat) (w : World) (a : Option Addr) (l : List α) : Prop := l = [] ∨ ∃ b off, a = some ⟨b, off, none⟩ ∧ Ls G w b off l
theorem Sl.keep {α : Type} [Elem α] {w w' : World} {a : Option Addr} {l : List α} (h : Sl G w a l) (hb : Below w.heap.size w w') : Sl G w' a l := by
  rcases h with h | ⟨b, off, h1, h2⟩
  · exact .inl h
  · exact .inr ⟨b, off, h1, h2.keep hb⟩
instance {α : Type} [Elem α] {w w' : World} {a : Option Addr} {l : List α} : Goes (Sl G w a l) w w' (Sl G w' a l) := ⟨fun h hb => h.keep hb⟩
theorem flatten_get {α : Type} {n : Nat} : ∀ {l : List (List α)}, (∀ x ∈ l, x.length = n) → ∀ {k : Nat} (hk : k < l.length) {j : Nat}, j < n → l.flatten[k * n + j]? = (l[k])[j]?
 | [], _, k, hk, _, _ => by simp at hk
 | y :: l, hl, 0, _, j, hj => by
  have := hl y (by simp)
  rw [List.flatten_cons, Nat.zero_mul, Nat.zero_add, List.getElem?_append_left (by omega)]; rfl
 | y :: l, hl, k + 1, hk, j, hj => by
  have h1 := hl y (by simp)
  have ih := flatten_get (l := l) (fun z hz => hl z (List.mem_cons_of_mem _ hz)) (k := k) (by simpa using hk) hj
  rw [List.flatten_cons, List.getElem?_append_right (by rw [h1, Nat.succ_mul]; omega), h1, show (k + 1) * n + j - n = k * n + j by rw [Nat.succ_mul]; omega]
  exact ih
/-- Fractions. -/
instance : Elem Rat where
 sz := 4
 ok G w cs q := ∃ u0 u1 u2 u3, cs = [u0, u1, u2, u3] ∧ FQ G w u0 u1 u2 u3 q
 len := by rintro _ _ _ _ ⟨u0, u1, u2, u3, rfl, -⟩; rfl
 one := by
  rintro _ _ _ _ ⟨u0, u1, u2, u3, rfl, a, c, b, d, rfl, rfl, rfl, rfl, -⟩ u hu
  simp at hu; rcases hu with rfl | rfl | rfl | rfl <;> rfl
 keep := by rintro _ _ _ _ _ ⟨u0, u1, u2, u3, rfl, h⟩ hb; exact ⟨u0, u1, u2, u3, rfl, h.keep hb⟩
 only := by rintro _ _ _ _ _ ⟨u0, u1, u2, u3, rfl, h⟩ g T ys k hT hG hg; exact ⟨u0, u1, u2, u3, rfl, h.far k hT hG hg⟩
end Go.Proofs.YtjbfngjlepafgaaGreat
