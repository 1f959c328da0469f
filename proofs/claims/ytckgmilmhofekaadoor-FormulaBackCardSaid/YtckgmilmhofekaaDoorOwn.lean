/- Slices of structs: what an element is, in memory; slices that are read, and slices that the call owns and appends to. -/
import Derived.Test.YtckgmilmhofekaaDoorBase
import Derived.Test.YtckgmilmhofekaaDoorBigSpec
import Derived.Test.YtckgmilmhofekaaDoorBigA
import Derived.Test.YtckgmilmhofekaaDoorBigD
import Derived.Test.YtckgmilmhofekaaDoorBigQ
import Derived.Test.YtckgmilmhofekaaDoorFd
import Derived.Test.YtckgmilmhofekaaDoorBigDec
import Derived.Test.YtckgmilmhofekaaDoorProg
import Derived.Test.YtckgmilmhofekaaDoorShelf
import Derived.WalkKit
import Derived.WalkSpells
import Derived.WalkLawsBesides
import Derived.Handy
import Derived.Lib.Hide
import Derived.Lib.Strings
import Derived.Lib.Builder
import Derived.BigQuiet
import Derived.OwnWalk
import Derived.Laws.BitsLemmas
import Derived.WalkSmall
import Derived.Deep.QuietTactic
import Derived.StillTailTactics
import Derived.Maps.AppendAt
import Derived.IntWalk
import Derived.Deep.RegionHeld3
import Derived.Deep.DeepFit
import Derived.Deep.LoopGhost
import Derived.Deep.DeepCutAuto
import Derived.Lib.ItoaNum
import Derived.Lib.Repeat
import Derived.Lib.AppendIntMem
import Derived.Sort.OwnSorted
import Derived.Shelf.Strings.SlTrimAscii
import Derived.Lib.ConvBytes
import Derived.Lib.CutLaws
namespace Go.Proofs.YtckgmilmhofekaaDoor
open Go.RowKit Go.Lib
variable {G : Nat}

def rightP (p q : Int) : Bool := decide (0 < q) && decide (Nat.gcd p.natAbs q.natAbs = 1)
end Go.Proofs.YtckgmilmhofekaaDoor
namespace Go.Proofs.YtckgmilmhofekaaDoor
open Go.RowKit Go.Lib
variable {G : Nat}

/-- Right or not. -/
def zOf (s : Int) (l : List Int) : Int := s * (val (l.map Int.toNat) : Int)
def rightF (s : Int) (l : List Int) (t : Int) (m : List Int) : Bool := rightB s l && rightB t m && rightP (zOf s l) (zOf t m)
/-- A fraction's parts in memory, whatever they are. -/
structure FR (w : World) (a : Option Addr) (c : Nat) (b : Option Addr) (d : Nat) (l m : List Int) : Prop where
 n1 : RdZ w (.slice a l.length c) l
 d1 : RdZ w (.slice b m.length d) m
 n2 : l.length ≤ c
 d2 : m.length ≤ d
theorem FR.keep {w w' : World} {a b : Option Addr} {c d : Nat} {l m : List Int} (h : FR w a c b d l m) (hb : Below w.heap.size w w') : FR w' a c b d l m := ⟨h.n1.keep hb, h.d1.keep hb, h.n2, h.d2⟩
end Go.Proofs.YtckgmilmhofekaaDoor
namespace Go.Proofs.YtckgmilmhofekaaDoor
open Go.RowKit Go.Lib
variable {G : Nat}

/-- Four cells of a fraction, right or not: how many digits each part has, and which fraction it is, if it is right. -/
def FX (w : World) (u0 u1 u2 u3 : Value) (n m : Nat) (o : Option Rat) : Prop :=
 ∃ s a c t b d l k, u0 = .int .i64 s ∧ u1 = .slice a n c ∧ u2 = .int .i64 t ∧ u3 = .slice b m d ∧ List.length l = n ∧ List.length k = m ∧ FR w a c b d l k ∧
  ((o = none ∧ rightF s l t k = false) ∨ ∃ q, o = some q ∧ rightF s l t k = true ∧ s = sg (nu q) ∧ n = Go.Proofs.YtckgmilmhofekaaDoor.ln (nu q) ∧ t = sg (de q) ∧ m = Go.Proofs.YtckgmilmhofekaaDoor.ln (de q) ∧ FD w.heap.size w a c b d q)
theorem FX.keep {w w' : World} {u0 u1 u2 u3 : Value} {n m : Nat} {o : Option Rat} (h : FX w u0 u1 u2 u3 n m o) (hb : Below w.heap.size w w') : FX w' u0 u1 u2 u3 n m o := by
  obtain ⟨s, a, c, t, b, d, l, k, h0, h1, h2, h3, h4, h5, h6, h7⟩ := h
  refine ⟨s, a, c, t, b, d, l, k, h0, h1, h2, h3, h4, h5, h6.keep hb, ?_⟩
  rcases h7 with h7 | ⟨q, e, hr, k1, k2, k3, k4, k5⟩
  · exact .inl h7
  · exact .inr ⟨q, e, hr, k1, k2, k3, k4, (k5.keep hb).up hb.size⟩
end Go.Proofs.YtckgmilmhofekaaDoor
namespace Go.Proofs.YtckgmilmhofekaaDoor
open Go.RowKit
variable {G : Nat}

theorem below_none_ {w w' : World} (hg : w.grownBy w' none) : Below w.heap.size w w' := ⟨hg.os, hg.tape, hg.output, hg.size, fun k hk => hg.block k hk (by simp)⟩
/-- The block of a slice that the call owns. -/
theorem own_block {w : World} {B : Nat} {e : TypeId} {size n : Nat} {v : Value} {xs : List Value} (h : w.ownsRow B e size v n xs) : v.ownBlock = none ∨ ∃ g cur, v.ownBlock = some g ∧ B ≤ g ∧ Bx w g e cur := by
  rcases h.2 with ⟨rfl, -⟩ | ⟨g, cap, cur, rfl, hg, hh, -⟩
  · exact .inl rfl
  · exact .inr ⟨g, cur, rfl, hg, hh⟩
theorem Bx.grown {w w' : World} {g : Nat} {T : TypeId} {cs : Array Value} {B : Nat} {e : TypeId} {size n : Nat} {v : Value} {xs : List Value} (h : Bx w g T cs) (ho : w.ownsRow B e size v n xs) (hlt : g < B) (hg : w.grownBy w' v.ownBlock) : Bx w' g T cs := by
  rcases own_block ho with h1 | ⟨g', cur, h1, h2, h3⟩
  · rw [h1] at hg; exact h.keep (below_none_ hg)
  · rw [h1] at hg; exact h.only hg (by omega)
theorem flatten_get {α : Type} {n : Nat} : ∀ {l : List (List α)}, (∀ x ∈ l, x.length = n) → ∀ {k : Nat} (hk : k < l.length) {j : Nat}, j < n → l.flatten[k * n + j]? = (l[k])[j]?
 | [], _, k, hk, _, _ => by simp at hk
 | y :: l, hl, 0, _, j, hj => by
  have := hl y (by simp)
  rw [List.flatten_cons, Nat.zero_mul, Nat.zero_add, List.getElem?_append_left (by omega)]; rfl
 | y :: l, hl, k + 1, hk, j, hj => by
  have h1 := hl y (by simp)
  have ih := flatten_get (l := l) (fun z hz => hl z (List.mem_cons_of_mem _ hz)) (k := k) (by simpa using hk) hj
  rw [List.flatten_cons, List.getElem?_append_right (by rw [h1, Nat.succ_mul]; omega), h1, show (k + 1) * n + j - n = k * n + j by rw [Nat.succ_mul]; omega]
  exact ih
end Go.Proofs.YtckgmilmhofekaaDoor
