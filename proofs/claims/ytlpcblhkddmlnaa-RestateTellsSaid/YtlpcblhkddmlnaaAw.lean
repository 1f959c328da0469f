/- Words for printed walks: what is known of a world, kept as it grows; the cells of a box. -/
import Derived.Test.YtlpcblhkddmlnaaBase
import Derived.Test.YtlpcblhkddmlnaaBigSpec
import Derived.Test.YtlpcblhkddmlnaaBigB
import Derived.Test.YtlpcblhkddmlnaaBigC
import Derived.Test.YtlpcblhkddmlnaaBigD
import Derived.Test.YtlpcblhkddmlnaaBigK
import Derived.Test.YtlpcblhkddmlnaaBigQ
import Derived.Test.YtlpcblhkddmlnaaFd
import Derived.Test.YtlpcblhkddmlnaaProg
import Derived.WalkKit
import Derived.WalkSpells
import Derived.WalkLawsBesides
import Derived.Handy
import Derived.Lib.Hide
import Derived.Lib.Strings
import Derived.Lib.Builder
import Derived.BigQuiet
import Derived.OwnWalk
import Derived.Laws.BitsLemmas
import Derived.WalkSmall
import Derived.Deep.QuietTactic
import Derived.StillTailTactics
import Derived.Maps.AppendAt
import Derived.IntWalk
import Derived.Deep.RegionHeld3
import Derived.Deep.DeepFit
import Derived.Deep.LoopGhost
namespace Go.Proofs.Ytlpcblhkddmlnaa
open Go.RowKit
variable {G : Nat}

/-- What is known of a world, as it is known of a later one. -/
class Goes (p : Prop) (w w' : World) (q : outParam Prop) : Prop where
 go : p → Below w.heap.size w w' → q
instance {w w' : World} {g : Nat} {T : TypeId} {cs : Array Value} : Goes (Bx w g T cs) w w' (Bx w' g T cs) := ⟨fun h hb => h.keep hb⟩
instance {w w' : World} {a : Option Addr} {c : Nat} {z : Int} : Goes (BD G w a c z) w w' (BD G w' a c z) := ⟨fun h hb => h.keep hb⟩
instance {w w' : World} {a b : Option Addr} {c d : Nat} {q : Rat} : Goes (FD G w a c b d q) w w' (FD G w' a c b d q) := ⟨fun h hb => h.keep hb⟩
instance {w0 w w' : World} : Goes (Below w0.heap.size w0 w) w w' (Below w0.heap.size w0 w') := ⟨fun h hb => below_call h hb⟩
instance {w w' : World} {p q p' q' : Prop} [h1 : Goes p w w' q] [h2 : Goes p' w w' q'] : Goes (p ∧ p') w w' (q ∧ q') := ⟨fun h hb => ⟨h1.go h.1 hb, h2.go h.2 hb⟩⟩
theorem below_drew (w : World) : Below w.heap.size w w.drew := (Below.refl _ _).drew
theorem Bx.c1 {w : World} {g : Nat} {T : TypeId} {u0 : Value} (h : Bx w g T #[u0]) : w.cell? ⟨g, 0, none⟩ = some u0 ∧ w.frozen? ⟨g, 0, none⟩ = false :=
  ⟨h.at.1 0, h.at.2 0⟩
theorem Bx.c2 {w : World} {g : Nat} {T : TypeId} {u0 u1 : Value} (h : Bx w g T #[u0, u1]) : w.cell? ⟨g, 0, none⟩ = some u0 ∧ w.frozen? ⟨g, 0, none⟩ = false ∧ w.cell? ⟨g, 1, none⟩ = some u1 ∧ w.frozen? ⟨g, 1, none⟩ = false :=
  ⟨h.at.1 0, h.at.2 0, h.at.1 1, h.at.2 1⟩
theorem Bx.c4 {w : World} {g : Nat} {T : TypeId} {u0 u1 u2 u3 : Value} (h : Bx w g T #[u0, u1, u2, u3]) : w.cell? ⟨g, 0, none⟩ = some u0 ∧ w.frozen? ⟨g, 0, none⟩ = false ∧ w.cell? ⟨g, 1, none⟩ = some u1 ∧ w.frozen? ⟨g, 1, none⟩ = false ∧ w.cell? ⟨g, 2, none⟩ = some u2 ∧ w.frozen? ⟨g, 2, none⟩ = false ∧ w.cell? ⟨g, 3, none⟩ = some u3 ∧ w.frozen? ⟨g, 3, none⟩ = false :=
  ⟨h.at.1 0, h.at.2 0, h.at.1 1, h.at.2 1, h.at.1 2, h.at.2 2, h.at.1 3, h.at.2 3⟩
theorem Bx.c8 {w : World} {g : Nat} {T : TypeId} {u0 u1 u2 u3 u4 u5 u6 u7 : Value} (h : Bx w g T #[u0, u1, u2, u3, u4, u5, u6, u7]) : w.cell? ⟨g, 0, none⟩ = some u0 ∧ w.frozen? ⟨g, 0, none⟩ = false ∧ w.cell? ⟨g, 1, none⟩ = some u1 ∧ w.frozen? ⟨g, 1, none⟩ = false ∧ w.cell? ⟨g, 2, none⟩ = some u2 ∧ w.frozen? ⟨g, 2, none⟩ = false ∧ w.cell? ⟨g, 3, none⟩ = some u3 ∧ w.frozen? ⟨g, 3, none⟩ = false ∧ w.cell? ⟨g, 4, none⟩ = some u4 ∧ w.frozen? ⟨g, 4, none⟩ = false ∧ w.cell? ⟨g, 5, none⟩ = some u5 ∧ w.frozen? ⟨g, 5, none⟩ = false ∧ w.cell? ⟨g, 6, none⟩ = some u6 ∧ w.frozen? ⟨g, 6, none⟩ = false ∧ w.cell? ⟨g, 7, none⟩ = some u7 ∧ w.frozen? ⟨g, 7, none⟩ = false :=
  ⟨h.at.1 0, h.at.2 0, h.at.1 1, h.at.2 1, h.at.1 2, h.at.2 2, h.at.1 3, h.at.2 3, h.at.1 4, h.at.2 4, h.at.1 5, h.at.2 5, h.at.1 6, h.at.2 6, h.at.1 7, h.at.2 7⟩
theorem Bx.c10 {w : World} {g : Nat} {T : TypeId} {u0 u1 u2 u3 u4 u5 u6 u7 u8 u9 : Value} (h : Bx w g T #[u0, u1, u2, u3, u4, u5, u6, u7, u8, u9]) : w.cell? ⟨g, 0, none⟩ = some u0 ∧ w.frozen? ⟨g, 0, none⟩ = false ∧ w.cell? ⟨g, 1, none⟩ = some u1 ∧ w.frozen? ⟨g, 1, none⟩ = false ∧ w.cell? ⟨g, 2, none⟩ = some u2 ∧ w.frozen? ⟨g, 2, none⟩ = false ∧ w.cell? ⟨g, 3, none⟩ = some u3 ∧ w.frozen? ⟨g, 3, none⟩ = false ∧ w.cell? ⟨g, 4, none⟩ = some u4 ∧ w.frozen? ⟨g, 4, none⟩ = false ∧ w.cell? ⟨g, 5, none⟩ = some u5 ∧ w.frozen? ⟨g, 5, none⟩ = false ∧ w.cell? ⟨g, 6, none⟩ = some u6 ∧ w.frozen? ⟨g, 6, none⟩ = false ∧ w.cell? ⟨g, 7, none⟩ = some u7 ∧ w.frozen? ⟨g, 7, none⟩ = false ∧ w.cell? ⟨g, 8, none⟩ = some u8 ∧ w.frozen? ⟨g, 8, none⟩ = false ∧ w.cell? ⟨g, 9, none⟩ = some u9 ∧ w.frozen? ⟨g, 9, none⟩ = false :=
  ⟨h.at.1 0, h.at.2 0, h.at.1 1, h.at.2 1, h.at.1 2, h.at.2 2, h.at.1 3, h.at.2 3, h.at.1 4, h.at.2 4, h.at.1 5, h.at.2 5, h.at.1 6, h.at.2 6, h.at.1 7, h.at.2 7, h.at.1 8, h.at.2 8, h.at.1 9, h.at.2 9⟩
/-- Cells in a row, of memory that was there. -/
def Row (w : World) (b o : Nat) (cs : List Value) : Prop := b < w.heap.size ∧ ∀ j u, cs[j]? = some u → w.cell? ⟨b, o + j, none⟩ = some u
theorem Row.keep {w w' : World} {b o : Nat} {cs : List Value} (h : Row w b o cs) (hb : Below w.heap.size w w') : Row w' b o cs :=
 ⟨Nat.lt_of_lt_of_le h.1 hb.size, fun j u hj => (hb.cell (p := ⟨b, o + j, none⟩) h.1).trans (h.2 j u hj)⟩
theorem Row.far {w w' : World} {b o : Nat} {cs : List Value} {g : Nat} {T : TypeId} {xs : Array Value} (h : Row w b o cs) (_k : Bx w g T xs) (hne : b ≠ g) (hg : w.grownBy w' (some g)) : Row w' b o cs :=
 ⟨Nat.lt_of_lt_of_le h.1 hg.size, fun j u hj => hg.cell (h.2 j u hj) (by simp; exact hne)⟩
instance {w w' : World} {b o : Nat} {cs : List Value} : Goes (Row w b o cs) w w' (Row w' b o cs) := ⟨fun h hb => h.keep hb⟩
theorem Row.c1 {w : World} {b o : Nat} {u0 : Value} (h : Row w b o [u0]) : w.cell? ⟨b, o, none⟩ = some u0 := h.2 0 _ rfl
theorem Row.c2 {w : World} {b o : Nat} {u0 u1 : Value} (h : Row w b o [u0, u1]) : w.cell? ⟨b, o, none⟩ = some u0 ∧ w.cell? ⟨b, o + 1, none⟩ = some u1 :=
  ⟨h.2 0 _ rfl, h.2 1 _ rfl⟩
theorem Row.c4 {w : World} {b o : Nat} {u0 u1 u2 u3 : Value} (h : Row w b o [u0, u1, u2, u3]) : w.cell? ⟨b, o, none⟩ = some u0 ∧ w.cell? ⟨b, o + 1, none⟩ = some u1 ∧ w.cell? ⟨b, o + 2, none⟩ = some u2 ∧ w.cell? ⟨b, o + 3, none⟩ = some u3 :=
  ⟨h.2 0 _ rfl, h.2 1 _ rfl, h.2 2 _ rfl, h.2 3 _ rfl⟩
theorem Row.c8 {w : World} {b o : Nat} {u0 u1 u2 u3 u4 u5 u6 u7 : Value} (h : Row w b o [u0, u1, u2, u3, u4, u5, u6, u7]) : w.cell? ⟨b, o, none⟩ = some u0 ∧ w.cell? ⟨b, o + 1, none⟩ = some u1 ∧ w.cell? ⟨b, o + 2, none⟩ = some u2 ∧ w.cell? ⟨b, o + 3, none⟩ = some u3 ∧ w.cell? ⟨b, o + 4, none⟩ = some u4 ∧ w.cell? ⟨b, o + 5, none⟩ = some u5 ∧ w.cell? ⟨b, o + 6, none⟩ = some u6 ∧ w.cell? ⟨b, o + 7, none⟩ = some u7 :=
  ⟨h.2 0 _ rfl, h.2 1 _ rfl, h.2 2 _ rfl, h.2 3 _ rfl, h.2 4 _ rfl, h.2 5 _ rfl, h.2 6 _ rfl, h.2 7 _ rfl⟩
theorem Row.c10 {w : World} {b o : Nat} {u0 u1 u2 u3 u4 u5 u6 u7 u8 u9 : Value} (h : Row w b o [u0, u1, u2, u3, u4, u5, u6, u7, u8, u9]) : w.cell? ⟨b, o, none⟩ = some u0 ∧ w.cell? ⟨b, o + 1, none⟩ = some u1 ∧ w.cell? ⟨b, o + 2, none⟩ = some u2 ∧ w.cell? ⟨b, o + 3, none⟩ = some u3 ∧ w.cell? ⟨b, o + 4, none⟩ = some u4 ∧ w.cell? ⟨b, o + 5, none⟩ = some u5 ∧ w.cell? ⟨b, o + 6, none⟩ = some u6 ∧ w.cell? ⟨b, o + 7, none⟩ = some u7 ∧ w.cell? ⟨b, o + 8, none⟩ = some u8 ∧ w.cell? ⟨b, o + 9, none⟩ = some u9 :=
  ⟨h.2 0 _ rfl, h.2 1 _ rfl, h.2 2 _ rfl, h.2 3 _ rfl, h.2 4 _ rfl, h.2 5 _ rfl, h.2 6 _ rfl, h.2 7 _ rfl, h.2 8 _ rfl, h.2 9 _ rfl⟩
theorem alM {p q : Prop} {w w1 : World} {T : TypeId} {cs : Array Value} [Goes p w w1 q] (hv : w1 = w.alloc (.cells cs T)) (M : Hid p) : Hid (Bx w1 w.heap.size T cs ∧ q) :=
 Lib.hid (And.intro (hv ▸ bx1 w T cs) (Goes.go M.out (hv ▸ below_alloc _ _ : Below w.heap.size w w1)))
theorem gnM {p q : Prop} {w w1 : World} [Goes p w w1 q] (hb : Below w.heap.size w w1) (M : Hid p) : Hid q := Lib.hid (Goes.go M.out hb)
theorem adM {p q r : Prop} {w w1 : World} [Goes p w w1 q] (h : r) (hb : Below w.heap.size w w1) (M : Hid p) : Hid (r ∧ q) := Lib.hid (And.intro h (Goes.go M.out hb))
theorem ad2M {p q r s : Prop} {w w1 : World} [Goes p w w1 q] (h : r) (k : s) (hb : Below w.heap.size w w1) (M : Hid p) : Hid (r ∧ s ∧ q) := Lib.hid (And.intro h (And.intro k (Goes.go M.out hb)))
theorem drM {p q : Prop} {w w1 : World} [Goes p w w1 q] (hv : w1 = w.drew) (M : Hid p) : Hid q := Lib.hid (Goes.go M.out (hv ▸ below_drew _ : Below w.heap.size w w1))
theorem Row.t1 {w : World} {b o : Nat} {u0 : Value} {R : Prop} (h : Row w b o [u0]) (k : R) : w.cell? ⟨b, o, none⟩ = some u0 ∧ R :=
  ⟨h.2 0 _ rfl, k⟩
theorem Row.t2 {w : World} {b o : Nat} {u0 u1 : Value} {R : Prop} (h : Row w b o [u0, u1]) (k : R) : w.cell? ⟨b, o, none⟩ = some u0 ∧ w.cell? ⟨b, o + 1, none⟩ = some u1 ∧ R :=
  ⟨h.2 0 _ rfl, h.2 1 _ rfl, k⟩
theorem Row.t4 {w : World} {b o : Nat} {u0 u1 u2 u3 : Value} {R : Prop} (h : Row w b o [u0, u1, u2, u3]) (k : R) : w.cell? ⟨b, o, none⟩ = some u0 ∧ w.cell? ⟨b, o + 1, none⟩ = some u1 ∧ w.cell? ⟨b, o + 2, none⟩ = some u2 ∧ w.cell? ⟨b, o + 3, none⟩ = some u3 ∧ R :=
  ⟨h.2 0 _ rfl, h.2 1 _ rfl, h.2 2 _ rfl, h.2 3 _ rfl, k⟩
theorem Row.t8 {w : World} {b o : Nat} {u0 u1 u2 u3 u4 u5 u6 u7 : Value} {R : Prop} (h : Row w b o [u0, u1, u2, u3, u4, u5, u6, u7]) (k : R) : w.cell? ⟨b, o, none⟩ = some u0 ∧ w.cell? ⟨b, o + 1, none⟩ = some u1 ∧ w.cell? ⟨b, o + 2, none⟩ = some u2 ∧ w.cell? ⟨b, o + 3, none⟩ = some u3 ∧ w.cell? ⟨b, o + 4, none⟩ = some u4 ∧ w.cell? ⟨b, o + 5, none⟩ = some u5 ∧ w.cell? ⟨b, o + 6, none⟩ = some u6 ∧ w.cell? ⟨b, o + 7, none⟩ = some u7 ∧ R :=
  ⟨h.2 0 _ rfl, h.2 1 _ rfl, h.2 2 _ rfl, h.2 3 _ rfl, h.2 4 _ rfl, h.2 5 _ rfl, h.2 6 _ rfl, h.2 7 _ rfl, k⟩
theorem Row.t10 {w : World} {b o : Nat} {u0 u1 u2 u3 u4 u5 u6 u7 u8 u9 : Value} {R : Prop} (h : Row w b o [u0, u1, u2, u3, u4, u5, u6, u7, u8, u9]) (k : R) : w.cell? ⟨b, o, none⟩ = some u0 ∧ w.cell? ⟨b, o + 1, none⟩ = some u1 ∧ w.cell? ⟨b, o + 2, none⟩ = some u2 ∧ w.cell? ⟨b, o + 3, none⟩ = some u3 ∧ w.cell? ⟨b, o + 4, none⟩ = some u4 ∧ w.cell? ⟨b, o + 5, none⟩ = some u5 ∧ w.cell? ⟨b, o + 6, none⟩ = some u6 ∧ w.cell? ⟨b, o + 7, none⟩ = some u7 ∧ w.cell? ⟨b, o + 8, none⟩ = some u8 ∧ w.cell? ⟨b, o + 9, none⟩ = some u9 ∧ R :=
  ⟨h.2 0 _ rfl, h.2 1 _ rfl, h.2 2 _ rfl, h.2 3 _ rfl, h.2 4 _ rfl, h.2 5 _ rfl, h.2 6 _ rfl, h.2 7 _ rfl, h.2 8 _ rfl, h.2 9 _ rfl, k⟩
end Go.Proofs.Ytlpcblhkddmlnaa
