/- Words for printed walks: what is known of a world, kept as it grows; the cells of a box. -/
import Derived.Test.YtlcgckelamhnpaaGreatFd
import Derived.Test.YtlcgckelamhnpaaGreatDag
set_option maxRecDepth 100000
set_option maxHeartbeats 8000000
namespace Go.Proofs.YtlcgckelamhnpaaGreat
open Go.RowKit
variable {G : Nat}
class Goes (p : Prop) (w w' : World) (q : outParam Prop) : Prop where
 go : p → Below w.heap.size w w' → q
instance {w w' : World} {g : Nat} {T : TypeId} {cs : Array Value} : Goes (Bx w g T cs) w w' (Bx w' g T cs) := ⟨fun h hb => h.keep hb⟩
instance {w w' : World} {a : Option Addr} {c : Nat} {z : Int} : Goes (BD G w a c z) w w' (BD G w' a c z) := ⟨fun h hb => h.keep hb⟩
instance {w w' : World} {a b : Option Addr} {c d : Nat} {q : Rat} : Goes (FD G w a c b d q) w w' (FD G w' a c b d q) := ⟨fun h hb => h.keep hb⟩
instance {w0 w w' : World} : Goes (Below w0.heap.size w0 w) w w' (Below w0.heap.size w0 w') := ⟨fun h hb => below_call h hb⟩
instance {w w' : World} {p q p' q' : Prop} [h1 : Goes p w w' q] [h2 : Goes p' w w' q'] : Goes (p ∧ p') w w' (q ∧ q') := ⟨fun h hb => ⟨h1.go h.1 hb, h2.go h.2 hb⟩⟩
theorem below_drew (w : World) : Below w.heap.size w w.drew := (Below.refl _ _).drew
theorem Bx.c1 {w : World} {g : Nat} {T : TypeId} {u0 : Value} (h : Bx w g T #[u0]) : w.cell? ⟨g, 0, none⟩ = some u0 ∧ w.frozen? ⟨g, 0, none⟩ = false :=
 ⟨h.at.1 0, h.at.2 0⟩
theorem Bx.c2 {w : World} {g : Nat} {T : TypeId} {u0 u1 : Value} (h : Bx w g T #[u0, u1]) : w.cell? ⟨g, 0, none⟩ = some u0 ∧ w.frozen? ⟨g, 0, none⟩ = false ∧ w.cell? ⟨g, 1, none⟩ = some u1 ∧ w.frozen? ⟨g, 1, none⟩ = false :=
 ⟨h.at.1 0, h.at.2 0, h.at.1 1, h.at.2 1⟩
theorem Bx.c4 {w : World} {g : Nat} {T : TypeId} {u0 u1 u2 u3 : Value} (h : Bx w g T #[u0, u1, u2, u3]) : w.cell? ⟨g, 0, none⟩ = some u0 ∧ w.frozen? ⟨g, 0, none⟩ = false ∧ w.cell? ⟨g, 1, none⟩ = some u1 ∧ w.frozen? ⟨g, 1, none⟩ = false ∧ w.cell? ⟨g, 2, none⟩ = some u2 ∧ w.frozen? ⟨g, 2, none⟩ = false ∧ w.cell? ⟨g, 3, none⟩ = some u3 ∧ w.frozen? ⟨g, 3, none⟩ = false :=
 ⟨h.at.1 0, h.at.2 0, h.at.1 1, h.at.2 1, h.at.1 2, h.at.2 2, h.at.1 3, h.at.2 3⟩
theorem Bx.c6 {w : World} {g : Nat} {T : TypeId} {u0 u1 u2 u3 u4 u5 : Value} (h : Bx w g T #[u0, u1, u2, u3, u4, u5]) : w.cell? ⟨g, 0, none⟩ = some u0 ∧ w.frozen? ⟨g, 0, none⟩ = false ∧ w.cell? ⟨g, 1, none⟩ = some u1 ∧ w.frozen? ⟨g, 1, none⟩ = false ∧ w.cell? ⟨g, 2, none⟩ = some u2 ∧ w.frozen? ⟨g, 2, none⟩ = false ∧ w.cell? ⟨g, 3, none⟩ = some u3 ∧ w.frozen? ⟨g, 3, none⟩ = false ∧ w.cell? ⟨g, 4, none⟩ = some u4 ∧ w.frozen? ⟨g, 4, none⟩ = false ∧ w.cell? ⟨g, 5, none⟩ = some u5 ∧ w.frozen? ⟨g, 5, none⟩ = false :=
 ⟨h.at.1 0, h.at.2 0, h.at.1 1, h.at.2 1, h.at.1 2, h.at.2 2, h.at.1 3, h.at.2 3, h.at.1 4, h.at.2 4, h.at.1 5, h.at.2 5⟩
theorem Bx.c8 {w : World} {g : Nat} {T : TypeId} {u0 u1 u2 u3 u4 u5 u6 u7 : Value} (h : Bx w g T #[u0, u1, u2, u3, u4, u5, u6, u7]) : w.cell? ⟨g, 0, none⟩ = some u0 ∧ w.frozen? ⟨g, 0, none⟩ = false ∧ w.cell? ⟨g, 1, none⟩ = some u1 ∧ w.frozen? ⟨g, 1, none⟩ = false ∧ w.cell? ⟨g, 2, none⟩ = some u2 ∧ w.frozen? ⟨g, 2, none⟩ = false ∧ w.cell? ⟨g, 3, none⟩ = some u3 ∧ w.frozen? ⟨g, 3, none⟩ = false ∧ w.cell? ⟨g, 4, none⟩ = some u4 ∧ w.frozen? ⟨g, 4, none⟩ = false ∧ w.cell? ⟨g, 5, none⟩ = some u5 ∧ w.frozen? ⟨g, 5, none⟩ = false ∧ w.cell? ⟨g, 6, none⟩ = some u6 ∧ w.frozen? ⟨g, 6, none⟩ = false ∧ w.cell? ⟨g, 7, none⟩ = some u7 ∧ w.frozen? ⟨g, 7, none⟩ = false :=
 ⟨h.at.1 0, h.at.2 0, h.at.1 1, h.at.2 1, h.at.1 2, h.at.2 2, h.at.1 3, h.at.2 3, h.at.1 4, h.at.2 4, h.at.1 5, h.at.2 5, h.at.1 6, h.at.2 6, h.at.1 7, h.at.2 7⟩
def Row (w : World) (b o : Nat) (cs : List Value) : Prop := b < w.heap.size ∧ ∀ j u, cs[j]? = some u → w.cell? ⟨b, o + j, none⟩ = some u
theorem Row.keep {w w' : World} {b o : Nat} {cs : List Value} (h : Row w b o cs) (hb : Below w.heap.size w w') : Row w' b o cs :=
 ⟨Nat.lt_of_lt_of_le h.1 hb.size, fun j u hj => (hb.cell (p := ⟨b, o + j, none⟩) h.1).trans (h.2 j u hj)⟩
theorem Row.far {w w' : World} {b o : Nat} {cs : List Value} {g : Nat} {T : TypeId} {xs : Array Value} (h : Row w b o cs) (_k : Bx w g T xs) (hne : b ≠ g) (hg : w.grownBy w' (some g)) : Row w' b o cs :=
 ⟨Nat.lt_of_lt_of_le h.1 hg.size, fun j u hj => hg.cell (h.2 j u hj) (by simp; exact hne)⟩
instance {w w' : World} {b o : Nat} {cs : List Value} : Goes (Row w b o cs) w w' (Row w' b o cs) := ⟨fun h hb => h.keep hb⟩
theorem Row.c1 {w : World} {b o : Nat} {u0 : Value} (h : Row w b o [u0]) : w.cell? ⟨b, o, none⟩ = some u0 := h.2 0 _ rfl
theorem Row.c2 {w : World} {b o : Nat} {u0 u1 : Value} (h : Row w b o [u0, u1]) : w.cell? ⟨b, o, none⟩ = some u0 ∧ w.cell? ⟨b, o + 1, none⟩ = some u1 :=
 ⟨h.2 0 _ rfl, h.2 1 _ rfl⟩
theorem Row.c4 {w : World} {b o : Nat} {u0 u1 u2 u3 : Value} (h : Row w b o [u0, u1, u2, u3]) : w.cell? ⟨b, o, none⟩ = some u0 ∧ w.cell? ⟨b, o + 1, none⟩ = some u1 ∧ w.cell? ⟨b, o + 2, none⟩ = some u2 ∧ w.cell? ⟨b, o + 3, none⟩ = some u3 :=
 ⟨h.2 0 _ rfl, h.2 1 _ rfl, h.2 2 _ rfl, h.2 3 _ rfl⟩
theorem Row.c6 {w : World} {b o : Nat} {u0 u1 u2 u3 u4 u5 : Value} (h : Row w b o [u0, u1, u2, u3, u4, u5]) : w.cell? ⟨b, o, none⟩ = some u0 ∧ w.cell? ⟨b, o + 1, none⟩ = some u1 ∧ w.cell? ⟨b, o + 2, none⟩ = some u2 ∧ w.cell? ⟨b, o + 3, none⟩ = some u3 ∧ w.cell? ⟨b, o + 4, none⟩ = some u4 ∧ w.cell? ⟨b, o + 5, none⟩ = some u5 :=
 ⟨h.2 0 _ rfl, h.2 1 _ rfl, h.2 2 _ rfl, h.2 3 _ rfl, h.2 4 _ rfl, h.2 5 _ rfl⟩
theorem Row.c8 {w : World} {b o : Nat} {u0 u1 u2 u3 u4 u5 u6 u7 : Value} (h : Row w b o [u0, u1, u2, u3, u4, u5, u6, u7]) : w.cell? ⟨b, o, none⟩ = some u0 ∧ w.cell? ⟨b, o + 1, none⟩ = some u1 ∧ w.cell? ⟨b, o + 2, none⟩ = some u2 ∧ w.cell? ⟨b, o + 3, none⟩ = some u3 ∧ w.cell? ⟨b, o + 4, none⟩ = some u4 ∧ w.cell? ⟨b, o + 5, none⟩ = some u5 ∧ w.cell? ⟨b, o + 6, none⟩ = some u6 ∧ w.cell? ⟨b, o + 7, none⟩ = some u7 :=
 ⟨h.2 0 _ rfl, h.2 1 _ rfl, h.2 2 _ rfl, h.2 3 _ rfl, h.2 4 _ rfl, h.2 5 _ rfl, h.2 6 _ rfl, h.2 7 _ rfl⟩
theorem alM {p q : Prop} {w w1 : World} {T : TypeId} {cs : Array Value} [Goes p w w1 q] (hv : w1 = w.alloc (.cells cs T)) (M : Hid p) : Hid (Bx w1 w.heap.size T cs ∧ q) :=
 Lib.hid (And.intro (hv ▸ bx1 w T cs) (Goes.go M.out (hv ▸ below_alloc _ _ : Below w.heap.size w w1)))
theorem gnM {p q : Prop} {w w1 : World} [Goes p w w1 q] (hb : Below w.heap.size w w1) (M : Hid p) : Hid q := Lib.hid (Goes.go M.out hb)
theorem adM {p q r : Prop} {w w1 : World} [Goes p w w1 q] (h : r) (hb : Below w.heap.size w w1) (M : Hid p) : Hid (r ∧ q) := Lib.hid (And.intro h (Goes.go M.out hb))
theorem ad2M {p q r s : Prop} {w w1 : World} [Goes p w w1 q] (h : r) (k : s) (hb : Below w.heap.size w w1) (M : Hid p) : Hid (r ∧ s ∧ q) := Lib.hid (And.intro h (And.intro k (Goes.go M.out hb)))
theorem drM {p q : Prop} {w w1 : World} [Goes p w w1 q] (hv : w1 = w.drew) (M : Hid p) : Hid q := Lib.hid (Goes.go M.out (hv ▸ below_drew _ : Below w.heap.size w w1))
theorem Row.t1 {w : World} {b o : Nat} {u0 : Value} {R : Prop} (h : Row w b o [u0]) (k : R) : w.cell? ⟨b, o, none⟩ = some u0 ∧ R :=
 ⟨h.2 0 _ rfl, k⟩
theorem Row.t2 {w : World} {b o : Nat} {u0 u1 : Value} {R : Prop} (h : Row w b o [u0, u1]) (k : R) : w.cell? ⟨b, o, none⟩ = some u0 ∧ w.cell? ⟨b, o + 1, none⟩ = some u1 ∧ R :=
 ⟨h.2 0 _ rfl, h.2 1 _ rfl, k⟩
theorem Row.t3 {w : World} {b o : Nat} {u0 u1 u2 : Value} {R : Prop} (h : Row w b o [u0, u1, u2]) (k : R) : w.cell? ⟨b, o, none⟩ = some u0 ∧ w.cell? ⟨b, o + 1, none⟩ = some u1 ∧ w.cell? ⟨b, o + 2, none⟩ = some u2 ∧ R :=
 ⟨h.2 0 _ rfl, h.2 1 _ rfl, h.2 2 _ rfl, k⟩
theorem Row.t4 {w : World} {b o : Nat} {u0 u1 u2 u3 : Value} {R : Prop} (h : Row w b o [u0, u1, u2, u3]) (k : R) : w.cell? ⟨b, o, none⟩ = some u0 ∧ w.cell? ⟨b, o + 1, none⟩ = some u1 ∧ w.cell? ⟨b, o + 2, none⟩ = some u2 ∧ w.cell? ⟨b, o + 3, none⟩ = some u3 ∧ R :=
 ⟨h.2 0 _ rfl, h.2 1 _ rfl, h.2 2 _ rfl, h.2 3 _ rfl, k⟩
theorem Row.t6 {w : World} {b o : Nat} {u0 u1 u2 u3 u4 u5 : Value} {R : Prop} (h : Row w b o [u0, u1, u2, u3, u4, u5]) (k : R) : w.cell? ⟨b, o, none⟩ = some u0 ∧ w.cell? ⟨b, o + 1, none⟩ = some u1 ∧ w.cell? ⟨b, o + 2, none⟩ = some u2 ∧ w.cell? ⟨b, o + 3, none⟩ = some u3 ∧ w.cell? ⟨b, o + 4, none⟩ = some u4 ∧ w.cell? ⟨b, o + 5, none⟩ = some u5 ∧ R :=
 ⟨h.2 0 _ rfl, h.2 1 _ rfl, h.2 2 _ rfl, h.2 3 _ rfl, h.2 4 _ rfl, h.2 5 _ rfl, k⟩
theorem Row.t9 {w : World} {b o : Nat} {u0 u1 u2 u3 u4 u5 u6 u7 u8 : Value} {R : Prop} (h : Row w b o [u0, u1, u2, u3, u4, u5, u6, u7, u8]) (k : R) : w.cell? ⟨b, o, none⟩ = some u0 ∧ w.cell? ⟨b, o + 1, none⟩ = some u1 ∧ w.cell? ⟨b, o + 2, none⟩ = some u2 ∧ w.cell? ⟨b, o + 3, none⟩ = some u3 ∧ w.cell? ⟨b, o + 4, none⟩ = some u4 ∧ w.cell? ⟨b, o + 5, none⟩ = some u5 ∧ w.cell? ⟨b, o + 6, none⟩ = some u6 ∧ w.cell? ⟨b, o + 7, none⟩ = some u7 ∧ w.cell? ⟨b, o + 8, none⟩ = some u8 ∧ R :=
 ⟨h.2 0 _ rfl, h.2 1 _ rfl, h.2 2 _ rfl, h.2 3 _ rfl, h.2 4 _ rfl, h.2 5 _ rfl, h.2 6 _ rfl, h.2 7 _ rfl, h.2 8 _ rfl, k⟩
theorem st3W {w w0 : World} {g : Nat} {T : TypeId} {o0 o1 o2 : Value} (u0 u1 u2 : Value) {C : Prop} (h : Bx w g T #[o0, o1, o2]) (hb : Below w0.heap.size w0 w) (hz : w0.heap.size ≤ g) (k : ∀ w', w' = (((w.setCell ⟨g, 0, none⟩ u0).setCell ⟨g, 1, none⟩ u1).setCell ⟨g, 2, none⟩ u2) → w.grownBy w' (some g) → Bx w' g T #[u0, u1, u2] → Below w0.heap.size w0 w' → C) : C :=
 k _ rfl (only_setCell (only_setCell (only_setCell (World.grownBy.refl _ _) _) _) _) (((h.set 0 _).set 1 _).set 2 _) (Below.setCell (Below.setCell (Below.setCell hb hz _) hz _) hz _)
theorem st4W {w w0 : World} {g : Nat} {T : TypeId} {o0 o1 o2 o3 : Value} (u0 u1 u2 u3 : Value) {C : Prop} (h : Bx w g T #[o0, o1, o2, o3]) (hb : Below w0.heap.size w0 w) (hz : w0.heap.size ≤ g) (k : ∀ w', w' = ((((w.setCell ⟨g, 0, none⟩ u0).setCell ⟨g, 1, none⟩ u1).setCell ⟨g, 2, none⟩ u2).setCell ⟨g, 3, none⟩ u3) → w.grownBy w' (some g) → Bx w' g T #[u0, u1, u2, u3] → Below w0.heap.size w0 w' → C) : C :=
 k _ rfl (only_setCell (only_setCell (only_setCell (only_setCell (World.grownBy.refl _ _) _) _) _) _) ((((h.set 0 _).set 1 _).set 2 _).set 3 _) (Below.setCell (Below.setCell (Below.setCell (Below.setCell hb hz _) hz _) hz _) hz _)
theorem st8W {w w0 : World} {g : Nat} {T : TypeId} {o0 o1 o2 o3 o4 o5 o6 o7 : Value} (u0 u1 u2 u3 u4 u5 u6 u7 : Value) {C : Prop} (h : Bx w g T #[o0, o1, o2, o3, o4, o5, o6, o7]) (hb : Below w0.heap.size w0 w) (hz : w0.heap.size ≤ g) (k : ∀ w', w' = ((((((((w.setCell ⟨g, 0, none⟩ u0).setCell ⟨g, 1, none⟩ u1).setCell ⟨g, 2, none⟩ u2).setCell ⟨g, 3, none⟩ u3).setCell ⟨g, 4, none⟩ u4).setCell ⟨g, 5, none⟩ u5).setCell ⟨g, 6, none⟩ u6).setCell ⟨g, 7, none⟩ u7) → w.grownBy w' (some g) → Bx w' g T #[u0, u1, u2, u3, u4, u5, u6, u7] → Below w0.heap.size w0 w' → C) : C :=
 k _ rfl (only_setCell (only_setCell (only_setCell (only_setCell (only_setCell (only_setCell (only_setCell (only_setCell (World.grownBy.refl _ _) _) _) _) _) _) _) _) _) ((((((((h.set 0 _).set 1 _).set 2 _).set 3 _).set 4 _).set 5 _).set 6 _).set 7 _) (Below.setCell (Below.setCell (Below.setCell (Below.setCell (Below.setCell (Below.setCell (Below.setCell (Below.setCell hb hz _) hz _) hz _) hz _) hz _) hz _) hz _) hz _)
theorem al2W {p q : Prop} {w w1 : World} {T1 T2 : TypeId} {c1 c2 : Array Value} [Goes p w w1 q] (hv : w1 = ((w.alloc (.cells c1 T1)).alloc (.cells c2 T2))) (M : Hid p) : Hid (Bx w1 (w.heap.size + 1) T2 c2 ∧ Bx w1 w.heap.size T1 c1 ∧ q) := by
 have hbx := bx2 w T1 T2 c1 c2
 rw [← hv] at hbx
 have hbn : Below w.heap.size w w1 := by rw [hv]; exact (below_call (below_alloc _ _) (below_alloc _ _))
 exact Lib.hid (And.intro hbx.2 (And.intro hbx.1 (Goes.go M.out hbn)))
theorem al3W {p q : Prop} {w w1 : World} {T1 T2 T3 : TypeId} {c1 c2 c3 : Array Value} [Goes p w w1 q] (hv : w1 = (((w.alloc (.cells c1 T1)).alloc (.cells c2 T2)).alloc (.cells c3 T3))) (M : Hid p) : Hid (Bx w1 (w.heap.size + 1 + 1) T3 c3 ∧ Bx w1 (w.heap.size + 1) T2 c2 ∧ Bx w1 w.heap.size T1 c1 ∧ q) := by
 have hbx := bx3 w T1 T2 T3 c1 c2 c3
 rw [← hv] at hbx
 have hbn : Below w.heap.size w w1 := by rw [hv]; exact (below_call (below_call (below_alloc _ _) (below_alloc _ _)) (below_alloc _ _))
 exact Lib.hid (And.intro hbx.2.2 (And.intro hbx.2.1 (And.intro hbx.1 (Goes.go M.out hbn))))
theorem J1 {a0 r : Prop} (M : Hid (a0 ∧ r)) : r := M.out.2
theorem J2 {a0 a1 r : Prop} (M : Hid (a0 ∧ a1 ∧ r)) : r := M.out.2.2
theorem J3 {a0 a1 a2 r : Prop} (M : Hid (a0 ∧ a1 ∧ a2 ∧ r)) : r := M.out.2.2.2
theorem J4 {a0 a1 a2 a3 r : Prop} (M : Hid (a0 ∧ a1 ∧ a2 ∧ a3 ∧ r)) : r := M.out.2.2.2.2
theorem J5 {a0 a1 a2 a3 a4 r : Prop} (M : Hid (a0 ∧ a1 ∧ a2 ∧ a3 ∧ a4 ∧ r)) : r := M.out.2.2.2.2.2
theorem J6 {a0 a1 a2 a3 a4 a5 r : Prop} (M : Hid (a0 ∧ a1 ∧ a2 ∧ a3 ∧ a4 ∧ a5 ∧ r)) : r := M.out.2.2.2.2.2.2
theorem J7 {a0 a1 a2 a3 a4 a5 a6 r : Prop} (M : Hid (a0 ∧ a1 ∧ a2 ∧ a3 ∧ a4 ∧ a5 ∧ a6 ∧ r)) : r := M.out.2.2.2.2.2.2.2
theorem J8 {a0 a1 a2 a3 a4 a5 a6 a7 r : Prop} (M : Hid (a0 ∧ a1 ∧ a2 ∧ a3 ∧ a4 ∧ a5 ∧ a6 ∧ a7 ∧ r)) : r := M.out.2.2.2.2.2.2.2.2
theorem J9 {a0 a1 a2 a3 a4 a5 a6 a7 a8 r : Prop} (M : Hid (a0 ∧ a1 ∧ a2 ∧ a3 ∧ a4 ∧ a5 ∧ a6 ∧ a7 ∧ a8 ∧ r)) : r := M.out.2.2.2.2.2.2.2.2.2
theorem J10 {a0 a1 a2 a3 a4 a5 a6 a7 a8 a9 r : Prop} (M : Hid (a0 ∧ a1 ∧ a2 ∧ a3 ∧ a4 ∧ a5 ∧ a6 ∧ a7 ∧ a8 ∧ a9 ∧ r)) : r := M.out.2.2.2.2.2.2.2.2.2.2
theorem J11 {a0 a1 a2 a3 a4 a5 a6 a7 a8 a9 a10 r : Prop} (M : Hid (a0 ∧ a1 ∧ a2 ∧ a3 ∧ a4 ∧ a5 ∧ a6 ∧ a7 ∧ a8 ∧ a9 ∧ a10 ∧ r)) : r := M.out.2.2.2.2.2.2.2.2.2.2.2
theorem J12 {a0 a1 a2 a3 a4 a5 a6 a7 a8 a9 a10 a11 r : Prop} (M : Hid (a0 ∧ a1 ∧ a2 ∧ a3 ∧ a4 ∧ a5 ∧ a6 ∧ a7 ∧ a8 ∧ a9 ∧ a10 ∧ a11 ∧ r)) : r := M.out.2.2.2.2.2.2.2.2.2.2.2.2
theorem J13 {a0 a1 a2 a3 a4 a5 a6 a7 a8 a9 a10 a11 a12 r : Prop} (M : Hid (a0 ∧ a1 ∧ a2 ∧ a3 ∧ a4 ∧ a5 ∧ a6 ∧ a7 ∧ a8 ∧ a9 ∧ a10 ∧ a11 ∧ a12 ∧ r)) : r := M.out.2.2.2.2.2.2.2.2.2.2.2.2.2
theorem J14 {a0 a1 a2 a3 a4 a5 a6 a7 a8 a9 a10 a11 a12 a13 r : Prop} (M : Hid (a0 ∧ a1 ∧ a2 ∧ a3 ∧ a4 ∧ a5 ∧ a6 ∧ a7 ∧ a8 ∧ a9 ∧ a10 ∧ a11 ∧ a12 ∧ a13 ∧ r)) : r := M.out.2.2.2.2.2.2.2.2.2.2.2.2.2.2
theorem J15 {a0 a1 a2 a3 a4 a5 a6 a7 a8 a9 a10 a11 a12 a13 a14 r : Prop} (M : Hid (a0 ∧ a1 ∧ a2 ∧ a3 ∧ a4 ∧ a5 ∧ a6 ∧ a7 ∧ a8 ∧ a9 ∧ a10 ∧ a11 ∧ a12 ∧ a13 ∧ a14 ∧ r)) : r := M.out.2.2.2.2.2.2.2.2.2.2.2.2.2.2.2
theorem J16 {a0 a1 a2 a3 a4 a5 a6 a7 a8 a9 a10 a11 a12 a13 a14 a15 r : Prop} (M : Hid (a0 ∧ a1 ∧ a2 ∧ a3 ∧ a4 ∧ a5 ∧ a6 ∧ a7 ∧ a8 ∧ a9 ∧ a10 ∧ a11 ∧ a12 ∧ a13 ∧ a14 ∧ a15 ∧ r)) : r := M.out.2.2.2.2.2.2.2.2.2.2.2.2.2.2.2.2
theorem J17 {a0 a1 a2 a3 a4 a5 a6 a7 a8 a9 a10 a11 a12 a13 a14 a15 a16 r : Prop} (M : Hid (a0 ∧ a1 ∧ a2 ∧ a3 ∧ a4 ∧ a5 ∧ a6 ∧ a7 ∧ a8 ∧ a9 ∧ a10 ∧ a11 ∧ a12 ∧ a13 ∧ a14 ∧ a15 ∧ a16 ∧ r)) : r := M.out.2.2.2.2.2.2.2.2.2.2.2.2.2.2.2.2.2
theorem gW {w : World} {o : Option Nat} : w.grownBy w o := World.grownBy.refl _ _
theorem Y0 {a r : Prop} (M : Hid (a ∧ r)) : a := M.out.1
theorem Y1 {a0 a r : Prop} (M : Hid (a0 ∧ a ∧ r)) : a := (J1 M).1
theorem Y2 {a0 a1 a r : Prop} (M : Hid (a0 ∧ a1 ∧ a ∧ r)) : a := (J2 M).1
theorem Y3 {a0 a1 a2 a r : Prop} (M : Hid (a0 ∧ a1 ∧ a2 ∧ a ∧ r)) : a := (J3 M).1
theorem Y4 {a0 a1 a2 a3 a r : Prop} (M : Hid (a0 ∧ a1 ∧ a2 ∧ a3 ∧ a ∧ r)) : a := (J4 M).1
theorem Y5 {a0 a1 a2 a3 a4 a r : Prop} (M : Hid (a0 ∧ a1 ∧ a2 ∧ a3 ∧ a4 ∧ a ∧ r)) : a := (J5 M).1
theorem Y6 {a0 a1 a2 a3 a4 a5 a r : Prop} (M : Hid (a0 ∧ a1 ∧ a2 ∧ a3 ∧ a4 ∧ a5 ∧ a ∧ r)) : a := (J6 M).1
theorem Y7 {a0 a1 a2 a3 a4 a5 a6 a r : Prop} (M : Hid (a0 ∧ a1 ∧ a2 ∧ a3 ∧ a4 ∧ a5 ∧ a6 ∧ a ∧ r)) : a := (J7 M).1
theorem Y8 {a0 a1 a2 a3 a4 a5 a6 a7 a r : Prop} (M : Hid (a0 ∧ a1 ∧ a2 ∧ a3 ∧ a4 ∧ a5 ∧ a6 ∧ a7 ∧ a ∧ r)) : a := (J8 M).1
theorem Y9 {a0 a1 a2 a3 a4 a5 a6 a7 a8 a r : Prop} (M : Hid (a0 ∧ a1 ∧ a2 ∧ a3 ∧ a4 ∧ a5 ∧ a6 ∧ a7 ∧ a8 ∧ a ∧ r)) : a := (J9 M).1
theorem Y10 {a0 a1 a2 a3 a4 a5 a6 a7 a8 a9 a r : Prop} (M : Hid (a0 ∧ a1 ∧ a2 ∧ a3 ∧ a4 ∧ a5 ∧ a6 ∧ a7 ∧ a8 ∧ a9 ∧ a ∧ r)) : a := (J10 M).1
theorem Y11 {a0 a1 a2 a3 a4 a5 a6 a7 a8 a9 a10 a r : Prop} (M : Hid (a0 ∧ a1 ∧ a2 ∧ a3 ∧ a4 ∧ a5 ∧ a6 ∧ a7 ∧ a8 ∧ a9 ∧ a10 ∧ a ∧ r)) : a := (J11 M).1
theorem Y12 {a0 a1 a2 a3 a4 a5 a6 a7 a8 a9 a10 a11 a r : Prop} (M : Hid (a0 ∧ a1 ∧ a2 ∧ a3 ∧ a4 ∧ a5 ∧ a6 ∧ a7 ∧ a8 ∧ a9 ∧ a10 ∧ a11 ∧ a ∧ r)) : a := (J12 M).1
theorem Y13 {a0 a1 a2 a3 a4 a5 a6 a7 a8 a9 a10 a11 a12 a r : Prop} (M : Hid (a0 ∧ a1 ∧ a2 ∧ a3 ∧ a4 ∧ a5 ∧ a6 ∧ a7 ∧ a8 ∧ a9 ∧ a10 ∧ a11 ∧ a12 ∧ a ∧ r)) : a := (J13 M).1
theorem Y14 {a0 a1 a2 a3 a4 a5 a6 a7 a8 a9 a10 a11 a12 a13 a r : Prop} (M : Hid (a0 ∧ a1 ∧ a2 ∧ a3 ∧ a4 ∧ a5 ∧ a6 ∧ a7 ∧ a8 ∧ a9 ∧ a10 ∧ a11 ∧ a12 ∧ a13 ∧ a ∧ r)) : a := (J14 M).1
theorem Y15 {a0 a1 a2 a3 a4 a5 a6 a7 a8 a9 a10 a11 a12 a13 a14 a r : Prop} (M : Hid (a0 ∧ a1 ∧ a2 ∧ a3 ∧ a4 ∧ a5 ∧ a6 ∧ a7 ∧ a8 ∧ a9 ∧ a10 ∧ a11 ∧ a12 ∧ a13 ∧ a14 ∧ a ∧ r)) : a := (J15 M).1
theorem Y16 {a0 a1 a2 a3 a4 a5 a6 a7 a8 a9 a10 a11 a12 a13 a14 a15 a r : Prop} (M : Hid (a0 ∧ a1 ∧ a2 ∧ a3 ∧ a4 ∧ a5 ∧ a6 ∧ a7 ∧ a8 ∧ a9 ∧ a10 ∧ a11 ∧ a12 ∧ a13 ∧ a14 ∧ a15 ∧ a ∧ r)) : a := (J16 M).1
theorem Bx.o {w w1 : World} {g g1 : Nat} {T : TypeId} {cs : Array Value} (h : Bx w g T cs) (hb : w.grownBy w1 (some g1)) (hn : g ≠ g1 := by omega) : Bx w1 g T cs := h.only hb hn
theorem BD.f {w v : World} {g : Nat} {T : TypeId} {cs : Array Value} {a : Option Addr} {c : Nat} {z : Int} (h : BD G w a c z) (k : Bx w g T cs) (hg : w.grownBy v (some g)) (hT : (T == 3) = false := by rfl) (hG : G ≤ g := by omega) : BD G v a c z := h.far k hT hG hg
theorem Bx.D4 {w : World} {g : Nat} {T : TypeId} {u0 u1 u2 u3 : Value} {C : Prop} (h : Bx w g T #[u0, u1, u2, u3]) (k : w.cell? ⟨g, 0, none⟩ = some u0 → w.cell? ⟨g, 1, none⟩ = some u1 → w.cell? ⟨g, 2, none⟩ = some u2 → w.cell? ⟨g, 3, none⟩ = some u3 → C) : C := k (h.at.1 0) (h.at.1 1) (h.at.1 2) (h.at.1 3)
theorem Bx.D8 {w : World} {g : Nat} {T : TypeId} {u0 u1 u2 u3 u4 u5 u6 u7 : Value} {C : Prop} (h : Bx w g T #[u0, u1, u2, u3, u4, u5, u6, u7]) (k : w.cell? ⟨g, 0, none⟩ = some u0 → w.cell? ⟨g, 1, none⟩ = some u1 → w.cell? ⟨g, 2, none⟩ = some u2 → w.cell? ⟨g, 3, none⟩ = some u3 → w.cell? ⟨g, 4, none⟩ = some u4 → w.cell? ⟨g, 5, none⟩ = some u5 → w.cell? ⟨g, 6, none⟩ = some u6 → w.cell? ⟨g, 7, none⟩ = some u7 → C) : C := k (h.at.1 0) (h.at.1 1) (h.at.1 2) (h.at.1 3) (h.at.1 4) (h.at.1 5) (h.at.1 6) (h.at.1 7)
theorem st4V {w w0 : World} {g : Nat} {T : TypeId} {u0 u1 u2 u3 : Value} (o0 o1 o2 o3 : Value) {C : Prop} (h : Bx w g T #[u0, u1, u2, u3]) (hb : Below w0.heap.size w0 w) (k : ∀ w', w' = ((((w.setCell ⟨g, 0, none⟩ o0).setCell ⟨g, 1, none⟩ o1).setCell ⟨g, 2, none⟩ o2).setCell ⟨g, 3, none⟩ o3) → w.grownBy w' (some g) → Bx w' g T #[o0, o1, o2, o3] → Below w0.heap.size w0 w' → C) (hz : w0.heap.size ≤ g := by omega) : C := st4W o0 o1 o2 o3 h hb hz k
theorem st8V {w w0 : World} {g : Nat} {T : TypeId} {u0 u1 u2 u3 u4 u5 u6 u7 : Value} (o0 o1 o2 o3 o4 o5 o6 o7 : Value) {C : Prop} (h : Bx w g T #[u0, u1, u2, u3, u4, u5, u6, u7]) (hb : Below w0.heap.size w0 w) (k : ∀ w', w' = ((((((((w.setCell ⟨g, 0, none⟩ o0).setCell ⟨g, 1, none⟩ o1).setCell ⟨g, 2, none⟩ o2).setCell ⟨g, 3, none⟩ o3).setCell ⟨g, 4, none⟩ o4).setCell ⟨g, 5, none⟩ o5).setCell ⟨g, 6, none⟩ o6).setCell ⟨g, 7, none⟩ o7) → w.grownBy w' (some g) → Bx w' g T #[o0, o1, o2, o3, o4, o5, o6, o7] → Below w0.heap.size w0 w' → C) (hz : w0.heap.size ≤ g := by omega) : C := st8W o0 o1 o2 o3 o4 o5 o6 o7 h hb hz k
theorem rg2W {P : Program} {ops : Array Oper} {Q : Exit → Act → World → Prop} {id : Nat} {a : Act} {w v : World} (hv : v = w.drew) {g : Nat} {T : TypeId} {u0 u1 : Value} (h : Bx v g T #[u0, u1]) (k : v.cell? ⟨g, 0, none⟩ = some u0 ∧ v.cell? ⟨g, 1, none⟩ = some u1 → wpAnyH P .any ops Q (fun w' => w'.cell? ⟨g, 0, none⟩ = some u0 ∧ w'.cell? ⟨g, 1, none⟩ = some u1) ops.size (Array.replicate ops.size false) a v) (hm : P.follows .mixedOrders = true := by kernel_rfl) : (Code.region id ops true).wp P Q a w := rgW (S := fun w' => w'.cell? ⟨g, 0, none⟩ = some u0 ∧ w'.cell? ⟨g, 1, none⟩ = some u1) hv h.d2 k hm
theorem rg4W {P : Program} {ops : Array Oper} {Q : Exit → Act → World → Prop} {id : Nat} {a : Act} {w v : World} (hv : v = w.drew) {g : Nat} {T : TypeId} {u0 u1 u2 u3 : Value} (h : Bx v g T #[u0, u1, u2, u3]) (k : v.cell? ⟨g, 0, none⟩ = some u0 ∧ v.cell? ⟨g, 1, none⟩ = some u1 ∧ v.cell? ⟨g, 2, none⟩ = some u2 ∧ v.cell? ⟨g, 3, none⟩ = some u3 → wpAnyH P .any ops Q (fun w' => w'.cell? ⟨g, 0, none⟩ = some u0 ∧ w'.cell? ⟨g, 1, none⟩ = some u1 ∧ w'.cell? ⟨g, 2, none⟩ = some u2 ∧ w'.cell? ⟨g, 3, none⟩ = some u3) ops.size (Array.replicate ops.size false) a v) (hm : P.follows .mixedOrders = true := by kernel_rfl) : (Code.region id ops true).wp P Q a w := rgW (S := fun w' => w'.cell? ⟨g, 0, none⟩ = some u0 ∧ w'.cell? ⟨g, 1, none⟩ = some u1 ∧ w'.cell? ⟨g, 2, none⟩ = some u2 ∧ w'.cell? ⟨g, 3, none⟩ = some u3) hv h.d4 k hm
theorem rg8W {P : Program} {ops : Array Oper} {Q : Exit → Act → World → Prop} {id : Nat} {a : Act} {w v : World} (hv : v = w.drew) {g : Nat} {T : TypeId} {u0 u1 u2 u3 u4 u5 u6 u7 : Value} (h : Bx v g T #[u0, u1, u2, u3, u4, u5, u6, u7]) (k : v.cell? ⟨g, 0, none⟩ = some u0 ∧ v.cell? ⟨g, 1, none⟩ = some u1 ∧ v.cell? ⟨g, 2, none⟩ = some u2 ∧ v.cell? ⟨g, 3, none⟩ = some u3 ∧ v.cell? ⟨g, 4, none⟩ = some u4 ∧ v.cell? ⟨g, 5, none⟩ = some u5 ∧ v.cell? ⟨g, 6, none⟩ = some u6 ∧ v.cell? ⟨g, 7, none⟩ = some u7 → wpAnyH P .any ops Q (fun w' => w'.cell? ⟨g, 0, none⟩ = some u0 ∧ w'.cell? ⟨g, 1, none⟩ = some u1 ∧ w'.cell? ⟨g, 2, none⟩ = some u2 ∧ w'.cell? ⟨g, 3, none⟩ = some u3 ∧ w'.cell? ⟨g, 4, none⟩ = some u4 ∧ w'.cell? ⟨g, 5, none⟩ = some u5 ∧ w'.cell? ⟨g, 6, none⟩ = some u6 ∧ w'.cell? ⟨g, 7, none⟩ = some u7) ops.size (Array.replicate ops.size false) a v) (hm : P.follows .mixedOrders = true := by kernel_rfl) : (Code.region id ops true).wp P Q a w := rgW (S := fun w' => w'.cell? ⟨g, 0, none⟩ = some u0 ∧ w'.cell? ⟨g, 1, none⟩ = some u1 ∧ w'.cell? ⟨g, 2, none⟩ = some u2 ∧ w'.cell? ⟨g, 3, none⟩ = some u3 ∧ w'.cell? ⟨g, 4, none⟩ = some u4 ∧ w'.cell? ⟨g, 5, none⟩ = some u5 ∧ w'.cell? ⟨g, 6, none⟩ = some u6 ∧ w'.cell? ⟨g, 7, none⟩ = some u7) hv h.d8 k hm
end Go.Proofs.YtlcgckelamhnpaaGreat
