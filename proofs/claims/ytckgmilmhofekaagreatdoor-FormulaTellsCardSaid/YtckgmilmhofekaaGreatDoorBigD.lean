/- Walks: appending digits to digits of the call's own; a copy of digits. -/
import Derived.Test.YtckgmilmhofekaaGreatDoorBase
import Derived.Test.YtckgmilmhofekaaGreatDoorBigSpec
import Derived.Test.YtckgmilmhofekaaGreatDoorProg
import Derived.WalkKit
import Derived.WalkSpells
import Derived.WalkLawsBesides
import Derived.Handy
import Derived.Lib.Hide
import Derived.Lib.Strings
import Derived.Lib.Builder
import Derived.BigQuiet
import Derived.OwnWalk
import Derived.Laws.BitsLemmas
import Derived.WalkSmall
import Derived.Deep.QuietTactic
namespace Go.Proofs.YtckgmilmhofekaaGreatDoor
open Go.RowKit

end Go.Proofs.YtckgmilmhofekaaGreatDoor
namespace Go.Proofs.YtckgmilmhofekaaGreatDoor
open Go.RowKit

end Go.Proofs.YtckgmilmhofekaaGreatDoor
namespace Go.Proofs.YtckgmilmhofekaaGreatDoor
open Go.RowKit

theorem below_drewN {B : Nat} {a w : World} (h : Below B a w) (n : Nat) : Below B a (w.drewN n) := h.trans ⟨rfl, rfl, rfl, Nat.le_refl _, fun _ _ => rfl⟩
/-! ### order of digits -/
end Go.Proofs.YtckgmilmhofekaaGreatDoor
namespace Go.Proofs.YtckgmilmhofekaaGreatDoor
open Go.RowKit
variable {G : Nat}

def ln (z : Int) : Nat := (digs z.natAbs).length
/-- Where a slice of ints lies: below block number G, or in a block of ints. -/
def Ty (G : Nat) (w : World) (a : Option Addr) (n : Nat) : Prop := n = 0 ∨ ∀ b off, a = some ⟨b, off, none⟩ → b < G ∨ ∃ cs fr, w.heap[b]? = some (.cells cs 3 fr)
theorem Ty.keep {w w' : World} {a : Option Addr} {n : Nat} (h : Ty G w a n) (hb : Below w.heap.size w w') : Ty G w' a n := by
  rcases h with h | h
  · exact .inl h
  · refine .inr fun b off ha => ?_
    rcases h b off ha with h1 | ⟨cs, fr, h1⟩
    · exact .inl h1
    · refine .inr ⟨cs, fr, ?_⟩
      rw [hb.block b (lt_of_block h1)]; exact h1
theorem Ty.mono {G' : Nat} {w : World} {a : Option Addr} {n : Nat} (h : Ty G w a n) (hG : G ≤ G') : Ty G' w a n := by
  rcases h with h | h
  · exact .inl h
  · exact .inr fun b off ha => (h b off ha).imp (fun h1 => by omega) id
/-- A slice of ints reads as an integer's digits. -/
structure BD (G : Nat) (w : World) (a : Option Addr) (c : Nat) (z : Int) : Prop where
 rd : RdN w (.slice a (ln z) c) (digs z.natAbs)
 le : ln z ≤ c
 ty : Ty G w a (ln z)
theorem BD.keep {w w' : World} {a : Option Addr} {c : Nat} {z : Int} (h : BD G w a c z) (hb : Below w.heap.size w w') : BD G w' a c z := ⟨h.rd.keep hb, h.le, h.ty.keep hb⟩
end Go.Proofs.YtckgmilmhofekaaGreatDoor
